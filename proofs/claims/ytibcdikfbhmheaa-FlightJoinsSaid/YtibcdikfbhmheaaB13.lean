import Derived.Test.YtibcdikfbhmheaaB12
import Derived.Maps.AppendAt
set_option linter.unusedSimpArgs false
set_option linter.unusedVariables false
set_option maxRecDepth 100000
set_option maxHeartbeats 4000000
namespace Go.Proofs.Ytibcdikfbhmheaa
open Go Go.Conc Go.Proofs
open Go.ConcN (sumTo upd sumTo_upd upd_ne upd_same)
noncomputable section
structure Fini (C : Cw) (U : Usr) (σ : U.S) (st' : Nat -> Int) (ow : Nat -> Nat) (role : Nat -> Role) (N : Nat) (V : World) : Prop where
 cw : CwAt C true st' V
 inv : U.inv σ (fun b=>ow b = 3) V
 nrm : norm V = V
 n0 : 0 < N
 r0 : role 0 = .fin
 lt : ∀ b,ow b ≠ 0 -> b < V.heap.size
 oc : ow C.cb = 1
 ot : ∀ i,i < C.n -> ow (C.tb i) = 1
 sits : Sit C U σ (fun i=>st' i = 1 ∨ st' i = 2) ow role N V
 four : ∀ i,i < C.n -> st' i = 0 ∨ st' i = 1 ∨ st' i = 2 ∨ st' i = 3
section
variable {C : Cw} {E : Env} {U : Usr} {σ : U.S} {ow : Nat -> Nat} {role : Nat -> Role} {N : Nat} {V VQ : World} {Post : Value -> World -> Prop} {bQ : Frame} {aQ : Act} {opsQ : Array Oper} {iQ : Nat} {restQ : List Nat} {kQ : List Item} {cs0 : List Frame} {st' : Nat -> Int}
theorem mu_pops {R : World -> Prop} {K : Goroutine -> Prop} (hK : Mu Try.prog R K) {Rf : Frame} {ch : List PanicEntry} (hRf : Rf.mode = .run) (h : K (G { Rf with mode:=.panicking ch } [rootF])) : ∀ (cs : List Frame) (fr : Frame),(∀ f ∈ cs,UF f) -> (∃ fn,Try.prog.funcs[fr.fn]? = some fn) -> fr.defers = [] -> fr.mode = .panicking ch -> K (G fr (cs ++ [Rf,rootF])):=by
 intro cs
 induction cs with
 | nil=>intro fr _ hf hd hm; exact mu_pop hK hf hd hm hRf h
 | cons c cs ih =>
   intro fr hc hf hd hm
   obtain ⟨h1,_,h3,h4,_⟩:=hc c (by simp)
   exact mu_pop hK hf hd hm h1 (ih _ (fun f hf=>hc f (by simp [hf])) h4 h3 rfl)
def ended' (st' : Nat -> Int) (i : Nat) : Nat -> Int:=if st' i = 1 ∨ st' i = 2 then upd st' i 3 else st'
theorem end_turn (hO : CwOk E C) (hU : UOk E C U) (S : Fini C U σ st' ow role N V) {i : Nat} (hi : i < C.n)
   (K : ∀ role' V',Fini C U σ (ended' st' i) ow role' N V' -> V'.heap.size = V.heap.size -> (∀ b,(∀ j,j < C.n -> b ≠ C.tb j) -> V'.heap[b]? = V.heap[b]?) -> To Try.prog Post E (Las Try.prog E 3) 0 0 0 N role' V' (G (bQ.at (aQ.put ((opsQ[iQ]?).bind (·.dst)) (.tuple #[])) (.inRegion opsQ restQ :: kQ)) cs0)) :
   To Try.prog Post E (Las Try.prog E 3) 0 0 0 N role V (G (Frame.enter Try.prog 79 #[C.tp i] .normal) (bQ.at aQ (.inRegion opsQ (iQ :: restQ) :: kQ) :: cs0)):=by
 by_cases hs : st' i = 1 ∨ st' i = 2
 . obtain ⟨x,bx,r,fr,cs,Rf,hx0,hxN,hrx,hres,hloc,hRf,hbo,hbt,hbc⟩:=S.sits.sit i hi hs
   have hbk : ∀ x z r,role x ≠ .seat C.bk z r:=fun x z r hx=>by
     by_cases h0 : x = 0
     . subst h0; rw [S.r0] at hx; cases hx
     . obtain ⟨_,i,hi,_,e⟩:=S.sits.only x _ z r h0 hx
       exact hO.bki i hi e.symm
   refine end_go hO S.nrm S.cw hi hs hx0 hxN hrx hbk fun rM hM=>?_
   have hmk : Mu Try.prog (SW Try.prog E) (fun g=>To Try.prog Post E (Las Try.prog E 3) x 0 0 N (upd (upd role 0 (.seat C.bk (.int .i64 0) rM)) x .fin) V g):=mu_to hO.ok
   refine hres.2 _ _ hmk fun f v hf hk hd hm=>?_
   have hrm : Rf.mode = .run:=by obtain ⟨a,ops,j,rest,k,e,_⟩:=hRf; rw [e]; rfl
   refine mu_pops hmk hrm ?_ (fr :: cs) f (hU.uf σ i _ hloc.1) hf hd hm
   obtain ⟨a,ops,j,rest,k,e,hd',_⟩:=hRf
   subst e
   have e2 : ({ (baseD 141).at a (.inRegion ops (j :: rest) :: k) with mode:=.panicking [{ v:=v,recovered:=false }] } : Frame) = { (baseD 141).at ⟨a.tmps,Dfs C bx⟩ (.inRegion ops (j :: rest) :: k) with mode:=.panicking [{ v:=v,recovered:=false }] }:=by
     rw [← hd']
   show To _ _ _ _ _ _ _ _ _ _ (G _ _)
   rw [e2]
   refine over_go hO S.nrm S.cw hi hbc (hbt i hi) (by omega) S.n0 (by rw [upd_ne _ _ (Ne.symm hx0),upd_same]) (.inr rfl) ?_
   refine hM (fun g=>To Try.prog Post E (Las Try.prog E 3) 0 0 0 N _ _ g) _ (mu_to hO.ok) _ _ _ _ _ _ _ _ rfl ?_
   have hst : ended' st' i = upd st' i 3:=by unfold ended'; rw [if_pos hs]
   have hne : ∀ b,ow b ≠ 1 -> b ≠ C.tb i:=fun b hb e=>hb (by rw [e]; exact S.ot i hi)
   have hrr : ∀ y,y ≠ 0 -> y ≠ x -> upd (upd (upd (upd role 0 (.seat C.bk (.int .i64 0) rM)) x .fin) x .fin) 0 .fin y = role y:=fun y h0 h1=>by
     rw [upd_ne _ _ h0,upd_ne _ _ h1,upd_ne _ _ h1,upd_ne _ _ h0]
   have hrrx : upd (upd (upd (upd role 0 (.seat C.bk (.int .i64 0) rM)) x .fin) x .fin) 0 .fin x = .fin:=by rw [upd_ne _ _ hx0,upd_same]
   refine K _ _ ?_ (size_setCell _ _ _) (fun b hb=>by rw [setCell_heap,if_neg (hb i hi)])
   rw [hst]
   refine ⟨S.cw.put hO hi 3,hU.frame _ _ _ _ S.inv (fun b hb=>by rw [setCell_heap,if_neg (hne b (by omega))]) (by rw [size_setCell]; exact Nat.le_refl _),norm_set S.nrm _ _,S.n0,upd_same _ _ _,fun b hb=>by rw [size_setCell]; exact S.lt b hb,S.oc,S.ot,⟨fun j hj hD=>?_,fun y c z r' hy hry=>?_,fun y y' c z z' r1 r2 hy hy' h1 h2=>?_⟩,fun j hj=>?_⟩
   . have hji : j ≠ i:=fun e=>by subst e; rw [upd_same] at hD; rcases hD with h | h <;> omega
     rw [upd_ne _ _ hji] at hD
     obtain ⟨y,bj,r',fr',cs',Rj,h1,h2,h3,h4,h5,h6,h7,h8,h9⟩:=S.sits.sit j hj hD
     have hyx : y ≠ x:=fun e=>by subst e; rw [hrx] at h3; injection h3 with e1 _ _; exact hji (hO.chi j i hj hi e1.symm)
     exact ⟨y,bj,r',fr',cs',Rj,h1,h2,by rw [hrr y h1 hyx]; exact h3,h4,⟨h5.1,hU.mframe _ _ _ _ h5.2 (fun b hb=>by rw [setCell_heap,if_neg (hne b (by omega))]) (by rw [size_setCell]; exact Nat.le_refl _)⟩,h6,h7,h8,cell_same h9 (by rw [setCell_heap,if_neg (h8 i hi)])⟩
   . by_cases e : y = x
     . subst e; rw [hrrx] at hry; cases hry
     . rw [hrr y hy e] at hry
       obtain ⟨h1,j,hj,hD,e2⟩:=S.sits.only y c z r' hy hry
       refine ⟨h1,j,hj,?_,e2⟩
       have hji : j ≠ i:=fun e3=>by
         subst e3
         subst e2
         exact e (S.sits.inj y x _ _ _ _ _ hy hx0 hry hrx)
       rw [upd_ne _ _ hji]; exact hD
   . by_cases e : y = x
     . subst e; rw [hrrx] at h1; cases h1
     . by_cases e' : y' = x
       . subst e'; rw [hrrx] at h2; cases h2
       . rw [hrr y hy e] at h1
         rw [hrr y' hy' e'] at h2
         exact S.sits.inj y y' c z z' r1 r2 hy hy' h1 h2
   . by_cases e : j = i
     . subst e; rw [upd_same]; exact .inr (.inr (.inr rfl))
     . rw [upd_ne _ _ e]; exact S.four j hj
 . have hst : ended' st' i = st':=by unfold ended'; rw [if_neg hs]
   have hs2 : st' i = 0 ∨ st' i = 3:=by
     rcases S.four i hi with h | h | h | h
     . exact .inl h
     . exact absurd (.inl h) hs
     . exact absurd (.inr h) hs
     . exact .inr h
   refine end_idle hO S.nrm S.cw hi hs2 ?_
   exact K role V (by rw [hst]; exact S) rfl (fun _ _=>rfl)
theorem Fini.noSeat (S : Fini C U σ st' ow role N V) (h : ∀ i,i < C.n -> st' i = 0 ∨ st' i = 3) (x : Nat) : isSeat (role x) = false:=by
 by_cases h0 : x = 0
 . subst h0; rw [S.r0]; rfl
 . cases e : role x with
   | seat c z r =>
     obtain ⟨_,i,hi,hD,_⟩:=S.sits.only x c z r h0 e
     rcases h i hi with h1 | h1 <;> rcases hD with h2 | h2 <;> omega
   | fin=>rfl
   | quit=>rfl
end
open Go
theorem array78 (T : Array Value) (h : T.size = 78) : ∃ v0 v1 v2 v3 v4 v5 v6 v7 v8 v9 v10 v11 v12 v13 v14 v15 v16 v17 v18 v19 v20 v21 v22 v23 v24 v25 v26 v27 v28 v29 v30 v31 v32 v33 v34 v35 v36 v37 v38 v39 v40 v41 v42 v43 v44 v45 v46 v47 v48 v49 v50 v51 v52 v53 v54 v55 v56 v57 v58 v59 v60 v61 v62 v63 v64 v65 v66 v67 v68 v69 v70 v71 v72 v73 v74 v75 v76 v77 : Value,T = #[v0,v1,v2,v3,v4,v5,v6,v7,v8,v9,v10,v11,v12,v13,v14,v15,v16,v17,v18,v19,v20,v21,v22,v23,v24,v25,v26,v27,v28,v29,v30,v31,v32,v33,v34,v35,v36,v37,v38,v39,v40,v41,v42,v43,v44,v45,v46,v47,v48,v49,v50,v51,v52,v53,v54,v55,v56,v57,v58,v59,v60,v61,v62,v63,v64,v65,v66,v67,v68,v69,v70,v71,v72,v73,v74,v75,v76,v77]:=by
 obtain ⟨f,_,e⟩:=arrg T h
 exact ⟨_,_,_,_,_,_,_,_,_,_,_,_,_,_,_,_,_,_,_,_,_,_,_,_,_,_,_,_,_,_,_,_,_,_,_,_,_,_,_,_,_,_,_,_,_,_,_,_,_,_,_,_,_,_,_,_,_,_,_,_,_,_,_,_,_,_,_,_,_,_,_,_,_,_,_,_,_,_,e⟩
theorem array75 (T : Array Value) (h : T.size = 75) : ∃ v0 v1 v2 v3 v4 v5 v6 v7 v8 v9 v10 v11 v12 v13 v14 v15 v16 v17 v18 v19 v20 v21 v22 v23 v24 v25 v26 v27 v28 v29 v30 v31 v32 v33 v34 v35 v36 v37 v38 v39 v40 v41 v42 v43 v44 v45 v46 v47 v48 v49 v50 v51 v52 v53 v54 v55 v56 v57 v58 v59 v60 v61 v62 v63 v64 v65 v66 v67 v68 v69 v70 v71 v72 v73 v74 : Value,T = #[v0,v1,v2,v3,v4,v5,v6,v7,v8,v9,v10,v11,v12,v13,v14,v15,v16,v17,v18,v19,v20,v21,v22,v23,v24,v25,v26,v27,v28,v29,v30,v31,v32,v33,v34,v35,v36,v37,v38,v39,v40,v41,v42,v43,v44,v45,v46,v47,v48,v49,v50,v51,v52,v53,v54,v55,v56,v57,v58,v59,v60,v61,v62,v63,v64,v65,v66,v67,v68,v69,v70,v71,v72,v73,v74]:=by
 obtain ⟨f,_,e⟩:=arrg T h
 exact ⟨_,_,_,_,_,_,_,_,_,_,_,_,_,_,_,_,_,_,_,_,_,_,_,_,_,_,_,_,_,_,_,_,_,_,_,_,_,_,_,_,_,_,_,_,_,_,_,_,_,_,_,_,_,_,_,_,_,_,_,_,_,_,_,_,_,_,_,_,_,_,_,_,_,_,_,e⟩
section
variable {C : Cw} {E : Env} {U : Usr} {σ : U.S} {ow : Nat -> Nat} {role : Nat -> Role} {N : Nat} {V V' : World} {Post : Value -> World -> Prop}
theorem norm_alloc {V : World} (hn : norm V = V) (o : Obj) : norm (V.alloc o) = V.alloc o:=by
 have : norm (V.alloc o) = (norm V).alloc o:=rfl
 rw [this,hn]
theorem alloc_get (V : World) (o : Obj) (b : Nat) : (V.alloc o).heap[b]? = if b = V.heap.size then some o else V.heap[b]?:=by
 show (V.heap.push _)[b]? = _
 rw [Array.getElem?_push]
theorem alloc_size (V : World) (o : Obj) : (V.alloc o).heap.size = V.heap.size + 1:=by
 show (V.heap.push _).size = _
 rw [Array.size_push]
theorem CwAt.keep {e : Bool} {st : Nat -> Int} (H : CwAt C e st V) (hc : V'.heap[C.cb]? = V.heap[C.cb]?) (ht : ∀ i,i < C.n -> V'.heap[C.tb i]? = V.heap[C.tb i]?) : CwAt C e st V' :=
 ⟨by rw [hc]; exact H.crew,fun i hi=>by rw [ht i hi]; exact H.thr i hi⟩
theorem Sea.main (hU : UOk E C U) {e : Bool} (S : Sea C U σ ow role N V e) {owY : Nat -> Nat} (hn : norm V' = V') (hsz : V.heap.size <= V'.heap.size) (hk : ∀ b,ow b = 1 ∨ ow b = 3 -> V'.heap[b]? = V.heap[b]?) (h1 : ∀ b,ow b = 1 ↔ owY b = 1) (h3 : ∀ b,ow b = 3 ↔ owY b = 3) (hlt : ∀ b,owY b ≠ 0 -> b < V'.heap.size) : Sea C U σ owY role N V' e:=by
 have e3 : (fun b=>owY b = 3) = fun b=>ow b = 3:=by funext b; exact propext (h3 b).symm
 refine ⟨S.cw.keep (hk _ (.inl S.oc)) (fun i hi=>hk _ (.inl (S.ot i hi))),?_,hn,S.n0,S.r0,hlt,(h1 _).1 S.oc,fun i hi=>(h1 _).1 (S.ot i hi),⟨fun i hi hD=>?_,S.sits.only,S.sits.inj⟩,S.cnt⟩
 . rw [e3]
   exact hU.frame _ _ _ _ S.inv (fun b hb=>hk b (.inr hb)) hsz
 . obtain ⟨x,bx,r,fr,cs,Rf,a1,a2,a3,a4,a5,a6,a7,a8,a9⟩:=S.sits.sit i hi hD
   exact ⟨x,bx,r,fr,cs,Rf,a1,a2,a3,a4,⟨a5.1,by rw [e3]; exact hU.mframe _ _ _ _ a5.2 (fun b hb=>hk b (.inr hb)) hsz⟩,a6,(h1 _).1 a7,a8,cell_same a9 (hk _ (.inl a7))⟩
theorem to_ex {P : Program} {L : List FuncId} {Lst : Nat -> Nat -> Goroutine -> Prop} {h dh pend n : Nat} {b : Frame} {a : Act} {ops : Array Oper} {i : Nat} {rest : List Nat} {k : List Item} {cs : List Frame} {o : Oper} (hE : EnvOk E) (hb : b.kind = .normal) (ho : ops[i]? = some o) (hw : Region.wanted o (yielded ops a.tmps) = true) (hok : opOk P L o.op = true) (Ψ : Value -> World -> Prop)
   (hr : ∀ τ,∃ v W,(execOp a.eval o).run P (re V τ 0) = .ok (.value v) W /\ Ψ v (norm W)) (K : ∀ v V',Ψ v V' -> norm V' = V' -> To P Post E Lst h dh pend n role V' (G (b.at (a.put o.dst v) (.inRegion ops rest :: k)) cs)) : To P Post E Lst h dh pend n role V (G (b.at a (.inRegion ops (i :: rest) :: k)) cs) :=
 To.walk hE (will_oper hb ho hw hok fun τ=>by
   obtain ⟨v,W,e,h1⟩:=hr τ
   rw [e]
   exact Will.stop (K v _ h1 rfl))
theorem owns_norm {w : World} {base : Nat} {e : TypeId} {size : Nat} {v : Value} {n : Nat} {xs : List Value} (h : w.ownsRow base e size v n xs) : (norm w).ownsRow base e size v n xs:=h
theorem owns_re {w : World} {base : Nat} {e : TypeId} {size : Nat} {v : Value} {n : Nat} {xs : List Value} {τ : Nat -> Question -> Nat} {d : Nat} (h : w.ownsRow base e size v n xs) : (re w τ d).ownsRow base e size v n xs:=h
theorem owns_keep {w w' : World} {base : Nat} {e : TypeId} {size : Nat} {v : Value} {n : Nat} {xs : List Value} (h : w.ownsRow base e size v n xs) (hk : ∀ b,v.ownBlock = some b -> w'.heap[b]? = w.heap[b]?) : w'.ownsRow base e size v n xs:=by
 obtain ⟨h1,h2⟩:=h
 refine ⟨h1,h2.imp id ?_⟩
 rintro ⟨g,cap,cur,rfl,h3,h4,h5⟩
 exact ⟨g,cap,cur,rfl,h3,by rw [hk g rfl]; exact h4,h5⟩
def Grew (V V' : World) (row : Option Nat) : Prop:=V.heap.size <= V'.heap.size /\ ∀ b,b < V.heap.size -> row ≠ some b -> V'.heap[b]? = V.heap[b]?
def own2 (ow : Nat -> Nat) (v : Value) (b : Nat) : Nat:=if v.ownBlock = some b then 2 else ow b
theorem Sea.grow (hU : UOk E C U) {e : Bool} (S : Sea C U σ ow role N V e) {v v' : Value} (hn : norm V' = V') (hg : Grew V V' v.ownBlock) (hv : ∀ b,v.ownBlock = some b -> ow b = 2) (hv' : v'.ownBlock = v.ownBlock ∨ v'.ownBlock = some V.heap.size) (hsz : ∀ b,v'.ownBlock = some b -> b < V'.heap.size) :
   Sea C U σ (own2 ow v') role N V' e /\ (∀ b,ow b = 2 -> own2 ow v' b = 2) /\ (∀ b,ow b = 2 -> v.ownBlock ≠ some b -> V'.heap[b]? = V.heap[b]?) /\ ∀ b,v'.ownBlock = some b -> own2 ow v' b = 2:=by
 have hk : ∀ b,ow b ≠ 0 -> v.ownBlock ≠ some b -> V'.heap[b]? = V.heap[b]?:=fun b hb hne=>hg.2 b (S.lt b hb) hne
 have hnew : ∀ b,v'.ownBlock = some b -> ow b = 2 ∨ ow b = 0:=fun b hb=>by
   rcases hv' with h | h
   . exact .inl (hv b (by rw [← h]; exact hb))
   . right
     rw [h] at hb
     obtain rfl : V.heap.size = b:=by simpa using hb
     apply Classical.byContradiction
     intro hne
     have:=S.lt _ hne
     omega
 refine ⟨S.main hU hn hg.1 (fun b hb=>hk b (by omega) fun e=>by have:=hv b e; omega) (fun b=>?_) (fun b=>?_) (fun b hb=>?_),fun b hb=>?_,fun b hb hne=>hk b (by omega) hne,fun b hb=>by unfold own2; rw [if_pos hb]⟩
 . unfold own2
   by_cases e : v'.ownBlock = some b
   . rw [if_pos e]; have:=hnew b e; omega
   . rw [if_neg e]
 . unfold own2
   by_cases e : v'.ownBlock = some b
   . rw [if_pos e]; have:=hnew b e; omega
   . rw [if_neg e]
 . unfold own2 at hb
   by_cases e : v'.ownBlock = some b
   . exact hsz b e
   . rw [if_neg e] at hb
     exact Nat.lt_of_lt_of_le (S.lt b hb) hg.1
 . unfold own2
   by_cases e : v'.ownBlock = some b
   . rw [if_pos e]
   . rw [if_neg e]; exact hb
end
def sqa : Code -> Code | .seq x _=>x | c=>c
def sqb : Code -> Code | .seq _ x=>x | c=>c
def blk : Code -> Code | .block _ x=>x | c=>c
def lop : Code -> Code | .loop x=>x | c=>c
noncomputable def B78 : Code:=Try.f78.body.getD .skip
def T1 : Code:=lop (blk (sqb (sqa (sqb (sqb (sqb B78))))))
def Tz : Code:=sqb (sqb (sqb (sqb B78)))
def T2 : Code:=lop (blk (sqb (sqa Tz)))
def Tz2 : Code:=sqb Tz
def T3 : Code:=lop (blk (sqb (sqa (sqb (blk (sqa (sqb (sqb T2))))))))
def stp (U : Usr) (x : U.S × List Nat) (i : Nat) : U.S × List Nat:=if U.st x.1 i = 0 ∨ U.st x.1 i = 1 then (U.turn x.1 i,x.2 ++ [i]) else x
def ints (xs : List Nat) : List Value:=xs.map fun (i : Nat)=>Value.int .i64 (i : Int)
theorem info3 : (Try.prog.info? 3).map (fun i=>(i.zero,i.size,i.bytes)) = some (some (.int .i64 0),1,8):=by kernel_rfl
structure Ms (C : Cw) (U : Usr) (Q : Nat -> Prop) (VQ : World) (σ : U.S) (xs : List Nat) (ow : Nat -> Nat) (role : Nat -> Role) (N : Nat) (V : World) (ov : Value) : Prop where
 sea : Sea C U σ ow role N V false
 row : V.ownsRow 0 3 1 ov xs.length (ints xs)
 rown : ∀ b,ov.ownBlock = some b -> ow b = 2 /\ ¬ Q b
 q : ∀ b,Q b -> ow b = 2 /\ V.heap[b]? = VQ.heap[b]?
 big : VQ.heap.size <= V.heap.size
structure LsAt (C : Cw) (Q : Nat -> Prop) (VQ : World) : Prop where
 l : ∃ b,C.l = .slice b C.n C.cap /\ (0 < C.n -> b = some ⟨C.lb,0,none⟩)
 q : 0 < C.n -> Q C.lb
 at_ : ∀ i,i < C.n -> VQ.cell? ⟨C.lb,i,none⟩ = some (C.tp i)
section
variable {C : Cw} {E : Env} {U : Usr} {Q : Nat -> Prop} {σ : U.S} {xs : List Nat} {ow : Nat -> Nat} {role : Nat -> Role} {N : Nat} {V VQ : World} {ov : Value} {Post : Value -> World -> Prop} {bQ : Frame} {aQ : Act} {opsQ : Array Oper} {iQ : Nat} {restQ : List Nat} {kQ : List Item} {cs0 : List Frame}
theorem Ms.cell (M : Ms C U Q VQ σ xs ow role N V ov) {b k : Nat} {v : Value} (hb : Q b) (h : VQ.cell? ⟨b,k,none⟩ = some v) : V.cell? ⟨b,k,none⟩ = some v:=cell_same h (M.q b hb).2
theorem ms_turn (hO : CwOk E C) (hU : UOk E C U) (hbig : C.n < 1000000) (L : LsAt C Q VQ) (M : Ms C U Q VQ σ xs ow role N V ov) {i : Nat} (hi : i < C.n)
   (K : ∀ (t : Bool) σ' N' role' V' ow',Ms C U Q VQ σ' xs ow' role' N' V' ov -> (t = true -> σ' = U.turn σ i /\ (U.st σ i = 0 ∨ U.st σ i = 1)) -> (t = false -> σ' = σ /\ ¬ (U.st σ i = 0 ∨ U.st σ i = 1)) -> To Try.prog Post E (Las Try.prog E 3) 0 0 0 N' role' V' (G (bQ.at (aQ.put ((opsQ[iQ]?).bind (·.dst)) (.bool t)) (.inRegion opsQ restQ :: kQ)) cs0)) :
   To Try.prog Post E (Las Try.prog E 3) 0 0 0 N role V (G (Frame.enter Try.prog 108 #[C.tp i] .normal) (bQ.at aQ (.inRegion opsQ (iQ :: restQ) :: kQ) :: cs0)):=by
 refine turn_go hO hU hbig M.sea hi ⟨L.l,fun j hj=>M.cell (L.q (by omega)) (L.at_ j hj),fun j hj e=>by have h1:=(M.q _ (L.q (by omega))).1; have h2:=M.sea.ot j hj; rw [← e] at h2; omega⟩ (M.q _ (L.q (by omega))).1 (fun h=>K false σ N role V ow M (by simp) (fun _=>⟨rfl,by omega⟩)) fun h N' role' V' ow' S hsz h2 hk=>K true (U.turn σ i) N' role' V' ow' ⟨S,owns_keep M.row fun b hb=>hk b (M.rown b hb).1,fun b hb=>⟨(h2 b).1 (M.rown b hb).1,(M.rown b hb).2⟩,fun b hb=>⟨(h2 b).1 (M.q b hb).1,by rw [hk b (M.q b hb).1]; exact (M.q b hb).2⟩,by have:=M.big; omega⟩ (fun _=>⟨rfl,h⟩) (by simp)
theorem ms_alloc (hU : UOk E C U) (M : Ms C U Q VQ σ xs ow role N V ov) (v : Value) : Ms C U Q VQ σ xs ow role N (V.alloc (.cells #[v] 3)) ov:=by
 have hg : ∀ b,ow b ≠ 0 -> (V.alloc (.cells #[v] 3)).heap[b]? = V.heap[b]?:=fun b hb=>by
   rw [alloc_get,if_neg]
   have:=M.sea.lt b hb
   omega
 refine ⟨M.sea.main hU (norm_alloc M.sea.nrm _) (by rw [alloc_size]; omega) (fun b hb=>hg b (by omega)) (fun _=>Iff.rfl) (fun _=>Iff.rfl) (fun b hb=>by rw [alloc_size]; have:=M.sea.lt b hb; omega),owns_keep M.row fun b hb=>hg b (by rw [(M.rown b hb).1]; decide),M.rown,fun b hb=>⟨(M.q b hb).1,?_⟩,by rw [alloc_size]; have:=M.big; omega⟩
 rw [hg b (by rw [(M.q b hb).1]; decide)]
 exact (M.q b hb).2
theorem ms_app (hU : UOk E C U) (hQ : ∀ b,Q b -> b < VQ.heap.size) (M : Ms C U Q VQ σ xs ow role N V ov) {i : Nat} {ov' : Value} {V' : World} (hn : norm V' = V') (hrow : V'.ownsRow 0 3 1 ov' (xs.length + 1) (ints xs ++ [.int .i64 i])) (hg : Grew V V' ov.ownBlock) (hv : ov'.ownBlock = ov.ownBlock ∨ ov'.ownBlock = some V.heap.size) :
   Ms C U Q VQ σ (xs ++ [i]) (own2 ow ov') role N V' ov':=by
 have hlt : ∀ b,ov'.ownBlock = some b -> b < V'.heap.size:=fun b hb=>by
   obtain ⟨_,h2⟩:=hrow
   rcases h2 with ⟨rfl,_⟩ | ⟨g,cap,cur,rfl,_,h4,_⟩
   . cases hb
   . obtain rfl : g = b:=by simpa [Value.ownBlock] using hb
     exact (Array.getElem?_eq_some_iff.1 h4).1
 obtain ⟨S,h1,h2,h3⟩:=M.sea.grow hU hn hg (fun b hb=>(M.rown b hb).1) hv hlt
 refine ⟨S,by simpa [ints] using hrow,fun b hb=>⟨h3 b hb,fun hq=>?_⟩,fun b hb=>⟨h1 b (M.q b hb).1,?_⟩,by have:=M.big; have:=hg.1; omega⟩
 . rcases hv with h | h
   . exact (M.rown b (by rw [← h]; exact hb)).2 hq
   . rw [h] at hb
     obtain rfl : V.heap.size = b:=by simpa using hb
     have:=hQ _ hq
     have:=M.big
     omega
 . rw [h2 b (M.q b hb).1 (fun e=>(M.rown b e).2 hb)]
   exact (M.q b hb).2
theorem app_run (M : Ms C U Q VQ σ xs ow role N V ov) {i : Nat} {ad : Nat} {c : Nat} (hc : V.cell? ⟨ad,0,none⟩ = some (.int .i64 i)) (hlen : xs.length < 1000000000000) (τ : Nat -> Question -> Nat) (ty : TypeId) :
   ∃ v' w',(Builtin.append_ #[23,23] ty #[ov,.slice (some ⟨ad,0,none⟩) 1 c]).run Try.prog (re V τ 0) = .ok v' w' /\ (norm w').ownsRow 0 3 1 v' (xs.length + 1) (ints xs ++ [.int .i64 i]) /\ Grew V (norm w') ov.ownBlock /\ (v'.ownBlock = ov.ownBlock ∨ v'.ownBlock = some V.heap.size):=by
 obtain ⟨i0,hi0,hz⟩ : ∃ i0,Try.prog.info? 3 = some i0 /\ (i0.zero,i0.size,i0.bytes) = (some (.int .i64 0),1,8):=by
   have:=info3
   cases e : Try.prog.info? 3 with
   | none=>rw [e] at this; cases this
   | some i0=>rw [e] at this; exact ⟨i0,rfl,by simpa using this⟩
 obtain ⟨hz0,hz1,hz2⟩ : i0.zero = some (.int .i64 0) /\ i0.size = 1 /\ i0.bytes = 8:=by simpa using hz
 obtain ⟨v',w',h1,h2,h3,_,h5⟩:=run_append_own_at (P:=Try.prog) (w:=re V τ 0) 0 23 ty 3 i0 (.int .i64 0) 1 8 Try.underlying23 hi0 hz0 hz1 hz2 rfl (by decide) ov xs.length (ints xs) (owns_re M.row) ⟨ad,0,none⟩ 1 c [.int .i64 i] rfl (fun j u hu=>by
   cases j with
   | zero=>simp at hu; subst hu; exact hc
   | succ j=>simp at hu) (by simp [Value.oneCell']) (by simp only [maxLen]; omega) (by omega) (Nat.zero_le _)
 exact ⟨v',w',h1,owns_norm h2,⟨h3.size,fun b hb hne=>h3.block b hb (fun e=>hne e.symm)⟩,h5⟩
theorem run_app_op {P : Program} {a : Act} {o : Oper} {s x : Operand} {t : TypeId} {w w' : World} {v vs vx : Value} (hop : o.op = .call { callee:=.builtin .append,args:=#[s,x],argTypes:=#[t,t] }) (hs : a.eval s = vs) (hx : a.eval x = vx) (hr : (Builtin.append_ #[t,t] o.type #[vs,vx]).run P w = .ok v w') : (execOp a.eval o).run P w = .ok (.value v) w':=by
 unfold execOp
 simp only [hop,resolve,invoke,builtin,Sem.run_bind,Sem.run_pure,Result.andThen_ok,List.map_toArray,List.map_cons,List.map_nil,hs,hx,hr]
def pidx (n : Nat) (p : Int) : Nat:=(((p.tmod n) + n).tmod n).toNat
def pk (U : Usr) (n : Nat) (x : U.S × List Nat) (p : Int) : U.S × List Nat:=if n = 0 then x else stp U x (pidx n p)
structure Rdr (U : Usr) (Q : Nat -> Prop) (VQ : World) (pv : Value) (ps : List Int) : Prop where
 v : ∃ b c,pv = .slice b ps.length c /\ (0 < ps.length -> ∃ g o,b = some ⟨g,o,none⟩ /\ ((Q g /\ ∀ k (hk : k < ps.length),VQ.cell? ⟨g,o + k,none⟩ = some (.int .i64 (ps[k]'hk))) ∨ ∀ σ own V,U.inv σ own V -> ∀ k (hk : k < ps.length),V.cell? ⟨g,o + k,none⟩ = some (.int .i64 (ps[k]'hk))))
 r : ∀ p ∈ ps,-9223372036854775808 <= p /\ p <= 9223372036854775807
def H1 (T : Array Value) (C : Cw) (rounds : Int) (ov : Value) : Prop:=T.size = 78 /\ T[0]? = some (.pointer (some ⟨C.cb,0,none⟩)) /\ T[2]? = some (.int .i64 rounds) /\ T[7]? = some ov /\ T[8]? = some (.int .i64 C.n)
theorem picks_loop (hO : CwOk E C) (hU : UOk E C U) (hn64 : C.n <= 64) (hQ : ∀ b,Q b -> b < VQ.heap.size) (L : LsAt C Q VQ) {ps : List Int} {pv : Value} (hp : Rdr U Q VQ pv ps) (hlen : ps.length < 100000000) {rounds : Int}
   (Kend : ∀ T σ' xs' ow' role' N' V' ov',Ms C U Q VQ σ' xs' ow' role' N' V' ov' -> (σ',xs') = ps.foldl (pk U C.n) (σ,xs) -> H1 T C rounds ov' -> To Try.prog Post E (Las Try.prog E 3) 0 0 0 N' role' V' (G ((base 78).at ⟨T,[]⟩ [.code Tz]) (bQ.at aQ (.inRegion opsQ (iQ :: restQ) :: kQ) :: cs0))) :
   ∀ (m k : Nat) T σQ xsQ ow role N V ov,m + k = ps.length -> Ms C U Q VQ σQ xsQ ow role N V ov -> (ps.drop k).foldl (pk U C.n) (σQ,xsQ) = ps.foldl (pk U C.n) (σ,xs) -> xsQ.length + m < 1000000000000 -> H1 T C rounds ov -> T[20]? = some pv -> T[21]? = some (.int .i64 ps.length) -> T[22]? = some (.int .i64 k) ->
     To Try.prog Post E (Las Try.prog E 3) 0 0 0 N role V (G ((base 78).at ⟨T,[]⟩ [.code T1,.inLoop T1,.inBlock 0,.code Tz]) (bQ.at aQ (.inRegion opsQ (iQ :: restQ) :: kQ) :: cs0)):=by
 intro m
 induction m with
 | zero =>
   intro k T σQ xsQ ow role N V ov hmk M hf hx ⟨h78,t0,t2,t7,t8⟩ t20 t21 t22
   obtain rfl : k = ps.length:=by omega
   have hn:=M.sea.nrm
   have q1 : decide ((ps.length : Int) < (ps.length : Int)) = false:=decide_eq_false (by omega)
   have Kend':=fun T h=>Kend T σQ xsQ ow role N V ov M (by rw [← hf]; simp) h
   clear Kend hmk
   obtain ⟨v0,v1,v2,v3,v4,v5,v6,v7,v8,v9,v10,v11,v12,v13,v14,v15,v16,v17,v18,v19,v20,v21,v22,v23,v24,v25,v26,v27,v28,v29,v30,v31,v32,v33,v34,v35,v36,v37,v38,v39,v40,v41,v42,v43,v44,v45,v46,v47,v48,v49,v50,v51,v52,v53,v54,v55,v56,v57,v58,v59,v60,v61,v62,v63,v64,v65,v66,v67,v68,v69,v70,v71,v72,v73,v74,v75,v76,v77,rfl⟩:=array78 T h78
   simp only [List.getElem?_toArray,List.getElem?_cons_zero,List.getElem?_cons_succ,Option.some.injEq] at t0 t2 t7 t8 t20 t21 t22
   subst t0 t2 t7 t8 t20 t21 t22
   refine (fun (h : ∀ X,X = T1 -> To Try.prog Post E (Las Try.prog E 3) 0 0 0 N role V (G ((base 78).at ⟨_,[]⟩ [.code X,.inLoop T1,.inBlock 0,.code Tz]) (bQ.at aQ (.inRegion opsQ (iQ :: restQ) :: kQ) :: cs0)))=>h T1 rfl) ?_
   intro X hX
   simp only [T1,B78,sqa,sqb,blk,lop,Try.f78,Option.getD_some] at hX
   subst hX
   refine wB (L:=Lone) (J:=fun g=>To Try.prog Post E (Las Try.prog E 3) 0 0 0 N role V g) (mu_to hO.ok) (muv_to hO.ok hn) fun kk hkk=>?_
   refine Kend' _ ?_
   exact ⟨by simp,rfl,rfl,rfl,rfl⟩
 | succ m ih =>
   intro k T σQ xsQ ow role N V ov hmk M hf hx ⟨h78,t0,t2,t7,t8⟩ t20 t21 t22
   have hk : k < ps.length:=by omega
   have hn:=M.sea.nrm
   obtain ⟨pb,pc,hpv,hpb⟩:=hp.v
   obtain ⟨pg,po,hpb',hpq⟩:=hpb (by omega)
   subst hpb' hpv
   have c1 : ∀ τ,(re V τ 0).cell? ⟨pg,po + k,none⟩ = some (.int .i64 (ps[k]'hk)):=fun τ=>hpq.elim (fun h=>M.cell h.1 (h.2 k hk)) (fun h=>h _ _ _ M.sea.inv k hk)
   obtain ⟨hr1,hr2⟩:=hp.r (ps[k]'hk) (List.getElem_mem hk)
   have q1 : decide ((k : Int) < (ps.length : Int)) = true:=decide_eq_true (by omega)
   have q2 : ¬ ((k : Int) < 0):=by omega
   have q3 : ¬ ((ps.length : Int) <= (k : Int)):=by omega
   have hdrop : ps.drop k = ps[k]'hk :: ps.drop (k + 1):=List.drop_eq_getElem_cons hk
   rw [hdrop,List.foldl_cons] at hf
   generalize ps[k] = p at *
   clear hdrop
   obtain ⟨v0,v1,v2,v3,v4,v5,v6,v7,v8,v9,v10,v11,v12,v13,v14,v15,v16,v17,v18,v19,v20,v21,v22,v23,v24,v25,v26,v27,v28,v29,v30,v31,v32,v33,v34,v35,v36,v37,v38,v39,v40,v41,v42,v43,v44,v45,v46,v47,v48,v49,v50,v51,v52,v53,v54,v55,v56,v57,v58,v59,v60,v61,v62,v63,v64,v65,v66,v67,v68,v69,v70,v71,v72,v73,v74,v75,v76,v77,rfl⟩:=array78 T h78
   simp only [List.getElem?_toArray,List.getElem?_cons_zero,List.getElem?_cons_succ,Option.some.injEq] at t0 t2 t7 t8 t20 t21 t22
   subst t0 t2 t7 t8 t20 t21 t22
   clear h78
   refine (fun (h : ∀ X,X = T1 -> To Try.prog Post E (Las Try.prog E 3) 0 0 0 N role V (G ((base 78).at ⟨_,[]⟩ [.code X,.inLoop T1,.inBlock 0,.code Tz]) (bQ.at aQ (.inRegion opsQ (iQ :: restQ) :: kQ) :: cs0)))=>h T1 rfl) ?_
   intro X hX
   simp only [T1,B78,sqa,sqb,blk,lop,Try.f78,Option.getD_some] at hX
   subst hX
   by_cases hn0 : C.n = 0
   . have q4 : ((C.n : Int) == 0) = true:=by rw [hn0]; rfl
     have hpk : ∀ (l : List Int) (x : U.S × List Nat),l.foldl (pk U C.n) x = x:=fun l=>by
       induction l with
       | nil=>intro x; rfl
       | cons y l ihl=>intro x; rw [List.foldl_cons,ihl]; unfold pk; rw [if_pos hn0]
     have Kend':=fun T h=>Kend T σQ xsQ ow role N V _ M (by rw [← hf,hpk]; unfold pk; rw [if_pos hn0]) h
     clear Kend ih hf hpk hn0
     refine wB (L:=Lone) (J:=fun g=>To Try.prog Post E (Las Try.prog E 3) 0 0 0 N role V g) (mu_to hO.ok) (muv_to hO.ok hn) fun kk hkk=>?_
     refine Kend' _ ?_
     exact ⟨by simp,rfl,rfl,rfl,rfl⟩
   . have q4 : ((C.n : Int) == 0) = false:=by simp; omega
     have q5 : ¬ (C.n : Int) = 0:=by omega
     obtain ⟨A,hA⟩ : ∃ A : Int,A = p.tmod (C.n : Int):=⟨_,rfl⟩
     have hA1 : -(C.n : Int) < A /\ A < (C.n : Int):=by
       rw [hA]
       have h1:=Int.tmod_lt_of_pos p (b:=(C.n : Int)) (by omega)
       have h2:=Int.tmod_lt_of_pos (-p) (b:=(C.n : Int)) (by omega)
       rw [Int.neg_tmod] at h2
       exact ⟨by omega,h1⟩
     obtain ⟨B,hB⟩ : ∃ B : Int,B = (A + (C.n : Int)).tmod (C.n : Int):=⟨_,rfl⟩
     have hB1 : 0 <= B /\ B < (C.n : Int):=by
       rw [hB]
       exact ⟨Int.tmod_nonneg _ (by omega),Int.tmod_lt_of_pos _ (by omega)⟩
     obtain ⟨j,hj⟩ : ∃ j : Nat,(j : Int) = B:=⟨B.toNat,by omega⟩
     have hjn : j < C.n:=by omega
     have hpi : pidx C.n p = j:=by unfold pidx; rw [← hA,← hB]; omega
     have w1 : p.tmod (C.n : Int) = A:=hA.symm
     have w2 : IntKind.i64.wrap (A + (C.n : Int)) = A + (C.n : Int):=by rw [IntKind.wrap_i64]; omega
     have w3 : (A + (C.n : Int)).tmod (C.n : Int) = (j : Int):=by rw [← hB,hj]
     have q6 : ¬ ((j : Int) < 0):=by omega
     have q7 : ¬ ((C.n : Int) <= (j : Int)):=by omega
     obtain ⟨lb,hl,hlb⟩:=L.l
     have hlb:=hlb (by omega)
     subst hlb
     have e0 : ∀ τ,(re V τ 0).cell? ⟨C.cb,0,none⟩ = some (.slice (some ⟨C.lb,0,none⟩) C.n C.cap):=fun τ=>by
       rw [re_cell,← hl]
       exact cell_of M.sea.cw.crew (by simp)
     have e9 : ∀ τ,(re V τ 0).cell? ⟨C.lb,j,none⟩ = some (.pointer (some ⟨C.tb j,0,none⟩)):=fun τ=>M.cell (L.q (by omega)) (L.at_ j hjn)
     clear hA hB hj hA1 hB1
     have hf : (ps.drop (k + 1)).foldl (pk U C.n) (stp U (σQ,xsQ) j) = ps.foldl (pk U C.n) (σ,xs):=by
       rw [← hf]
       unfold pk
       rw [if_neg hn0,hpi]
     clear hpi
     have w4 : IntKind.i64.wrap ((k : Int) + 1) = ((k + 1 : Nat) : Int):=by rw [IntKind.wrap_i64]; omega
     obtain ⟨K,hK,hV,key,yek⟩:=kKV (L:=Lone) (J:=fun g=>To Try.prog Post E (Las Try.prog E 3) 0 0 0 N role V g) (mu_to hO.ok) (muv_to hO.ok hn)
     refine key _ ?_
     refine wA fun kk hkk=>?_
     refine hK.cl rfl rfl rfl Try.func108 rfl ?_
     walk_nrm
     refine yek _ ?_
     clear hK hV key yek K
     clear e0 e9 c1
     refine ms_turn hO hU (by omega) L M hjn (fun t σY NX roleY VX owY MY ht hf'=>?_)
     walk_nrm
     have hnY:=MY.sea.nrm
     cases t with
     | false =>
       obtain ⟨rfl,hno⟩:=hf' rfl
       have hstp : stp U (σY,xsQ) j = (σY,xsQ):=by unfold stp; rw [if_neg hno]
       rw [hstp] at hf
       obtain ⟨K,hK,hV,key,yek⟩:=kKV (L:=Lone) (J:=fun g=>To Try.prog Post E (Las Try.prog E 3) 0 0 0 NX roleY VX g) (mu_to hO.ok) (muv_to hO.ok hnY)
       refine key _ ?_
       refine wA fun kk hkk=>?_
       refine mu_inLoop hK ?_
       refine yek _ ?_
       clear hK hV key yek K
       refine ih (k + 1) _ σY xsQ owY roleY NX VX _ (by omega) MY hf (by omega) ?_ ?_ ?_ ?_
       . exact ⟨by simp,rfl,rfl,rfl,rfl⟩
       . rfl
       . rfl
       . rfl
     | true =>
       obtain ⟨rfl,hyes⟩:=ht rfl
       have hstp : stp U (σQ,xsQ) j = (U.turn σQ j,xsQ ++ [j]):=by unfold stp; rw [if_pos hyes]
       rw [hstp] at hf
       refine wB (L:=Lone) (J:=fun g=>To Try.prog Post E (Las Try.prog E 3) 0 0 0 NX roleY VX g) (mu_to hO.ok) (muv_to hO.ok hnY) fun kk hkk=>?_
       have M₃:=ms_alloc hU MY (.int .i64 (j : Int))
       have hn₃:=M₃.sea.nrm
       refine mua_put (L:=Lone) (v:=.slice (some ⟨VX.heap.size,0,none⟩) 1 1) (mua_to hO.ok hn₃) (K:=fun g=>To Try.prog Post E (Las Try.prog E 3) 0 0 0 NX roleY VX g) (K':=fun g=>To Try.prog Post E (Las Try.prog E 3) 0 0 0 NX roleY (VX.alloc (.cells #[.int .i64 (j : Int)] 3)) g) rfl (.inl rfl) rfl (by kernel_rfl) (fun τ=>?_) ?_
       . go_simp
         exact ⟨rfl,rfl⟩
       have hc₃ : (VX.alloc (.cells #[.int .i64 (j : Int)] 3)).cell? ⟨VX.heap.size,0,none⟩ = some (.int .i64 (j : Int)):=cell_of (b:=VX.heap.size) (k:=0) (cs:=#[.int .i64 (j : Int)]) (t:=3) (f:=(0,0)) (by rw [alloc_get,if_pos rfl]) (by simp)
       generalize VX.alloc (.cells #[.int .i64 (j : Int)] 3) = V₃ at *
       walk_nrm
       refine to_ex (L:=Lone) hO.ok rfl rfl rfl (by kernel_rfl) (fun v W=>W.ownsRow 0 3 1 v (xsQ.length + 1) (ints xsQ ++ [.int .i64 j]) /\ Grew V₃ W (Value.ownBlock v7) /\ (v.ownBlock = Value.ownBlock v7 ∨ v.ownBlock = some V₃.heap.size)) (fun τ=>?_) (fun ov₄ V₄ ⟨r1,r2,r3⟩ hn₄=>?_)
       . obtain ⟨v',w',a1,a2,a3,a4⟩:=app_run M₃ (ad:=VX.heap.size) (c:=1) hc₃ (by omega) τ 23
         refine ⟨v',w',?_,a2,a3,a4⟩
         exact run_app_op (s:=.tmp 43) (x:=.tmp 45) rfl rfl rfl a1
       have M₄:=ms_app hU hQ M₃ hn₄ r1 r2 r3
       walk_nrm
       obtain ⟨K,hK,hV,key,yek⟩:=kKV (L:=Lone) (J:=fun g=>To Try.prog Post E (Las Try.prog E 3) 0 0 0 NX roleY V₄ g) (mu_to hO.ok) (muv_to hO.ok hn₄)
       refine key _ ?_
       refine wA fun kk hkk=>?_
       refine mu_inLoop hK ?_
       refine yek _ ?_
       clear hK hV key yek K
       refine ih (k + 1) _ _ (xsQ ++ [j]) _ roleY NX V₄ _ (by omega) M₄ hf (by simp; omega) ?_ ?_ ?_ ?_
       . exact ⟨by simp,rfl,rfl,rfl,rfl⟩
       . rfl
       . rfl
       . rfl
def rnd (U : Usr) (n : Nat) (x : U.S × List Nat) : U.S × List Nat:=(List.range n).foldl (stp U) x
def H3 (T : Array Value) (C : Cw) (was R r : Nat) (ov : Value) : Prop:=T.size = 78 /\ T[0]? = some (.pointer (some ⟨C.cb,0,none⟩)) /\ T[7]? = some ov /\ T[12]? = some (.int .i64 (was : Int)) /\ T[50]? = some (.int .i64 (R : Int)) /\ T[51]? = some (.int .i64 (r : Int))
theorem inner_loop (hO : CwOk E C) (hU : UOk E C U) (hn64 : C.n <= 64) (hQ : ∀ b,Q b -> b < VQ.heap.size) (L : LsAt C Q VQ) {was R r : Nat} {kt : List Item}
   (Kend : ∀ T σ' xs' ow' role' N' V' ov',Ms C U Q VQ σ' xs' ow' role' N' V' ov' -> (σ',xs') = rnd U C.n (σ,xs) -> H3 T C was R r ov' -> To Try.prog Post E (Las Try.prog E 3) 0 0 0 N' role' V' (G ((base 78).at ⟨T,[]⟩ kt) (bQ.at aQ (.inRegion opsQ (iQ :: restQ) :: kQ) :: cs0))) :
   ∀ (m k : Nat) T σQ xsQ ow role N V ov,m + k = C.n -> Ms C U Q VQ σQ xsQ ow role N V ov -> ((List.range C.n).drop k).foldl (stp U) (σQ,xsQ) = rnd U C.n (σ,xs) -> xsQ.length + m < 1000000000000 -> H3 T C was R r ov -> T[58]? = some C.l -> T[59]? = some (.int .i64 (C.n : Int)) -> T[60]? = some (.int .i64 (k : Int)) ->
     To Try.prog Post E (Las Try.prog E 3) 0 0 0 N role V (G ((base 78).at ⟨T,[]⟩ (.code T3 :: .inLoop T3 :: .inBlock 4 :: kt)) (bQ.at aQ (.inRegion opsQ (iQ :: restQ) :: kQ) :: cs0)):=by
 intro m
 induction m with
 | zero =>
   intro k T σQ xsQ ow role N V ov hmk M hf hx ⟨h78,t0,t7,t12,t50,t51⟩ t58 t59 t60
   obtain rfl : k = C.n:=by omega
   have hn:=M.sea.nrm
   have q1 : decide ((C.n : Int) < (C.n : Int)) = false:=decide_eq_false (by omega)
   have Kend':=fun T h=>Kend T σQ xsQ ow role N V ov M (by rw [← hf,List.drop_eq_nil_of_le (by simp)]; rfl) h
   clear Kend hmk
   obtain ⟨v0,v1,v2,v3,v4,v5,v6,v7,v8,v9,v10,v11,v12,v13,v14,v15,v16,v17,v18,v19,v20,v21,v22,v23,v24,v25,v26,v27,v28,v29,v30,v31,v32,v33,v34,v35,v36,v37,v38,v39,v40,v41,v42,v43,v44,v45,v46,v47,v48,v49,v50,v51,v52,v53,v54,v55,v56,v57,v58,v59,v60,v61,v62,v63,v64,v65,v66,v67,v68,v69,v70,v71,v72,v73,v74,v75,v76,v77,rfl⟩:=array78 T h78
   simp only [List.getElem?_toArray,List.getElem?_cons_zero,List.getElem?_cons_succ,Option.some.injEq] at t0 t7 t12 t50 t51 t58 t59 t60
   subst t0 t7 t12 t50 t51 t58 t59 t60
   refine (fun (h : ∀ X,X = T3 -> To Try.prog Post E (Las Try.prog E 3) 0 0 0 N role V (G ((base 78).at ⟨_,[]⟩ (.code X :: .inLoop T3 :: .inBlock 4 :: kt)) (bQ.at aQ (.inRegion opsQ (iQ :: restQ) :: kQ) :: cs0)))=>h T3 rfl) ?_
   intro X hX
   simp only [T3,T2,Tz,B78,sqa,sqb,blk,lop,Try.f78,Option.getD_some] at hX
   subst hX
   refine wB (L:=Lone) (J:=fun g=>To Try.prog Post E (Las Try.prog E 3) 0 0 0 N role V g) (mu_to hO.ok) (muv_to hO.ok hn) fun kk hkk=>?_
   refine Kend' _ ?_
   exact ⟨by simp,rfl,rfl,rfl,rfl,rfl⟩
 | succ m ih =>
   intro k T σQ xsQ ow role N V ov hmk M hf hx ⟨h78,t0,t7,t12,t50,t51⟩ t58 t59 t60
   have hk : k < C.n:=by omega
   have hn:=M.sea.nrm
   obtain ⟨lb,hl,hlb⟩:=L.l
   have hlb:=hlb (by omega)
   subst hlb
   rw [hl] at t58
   have q1 : decide ((k : Int) < (C.n : Int)) = true:=decide_eq_true (by omega)
   have q6 : ¬ ((k : Int) < 0):=by omega
   have q7 : ¬ ((C.n : Int) <= (k : Int)):=by omega
   have e9 : ∀ τ,(re V τ 0).cell? ⟨C.lb,k,none⟩ = some (.pointer (some ⟨C.tb k,0,none⟩)):=fun τ=>M.cell (L.q (by omega)) (L.at_ k hk)
   have hdrop : (List.range C.n).drop k = k :: (List.range C.n).drop (k + 1):=by
     rw [List.drop_eq_getElem_cons (by simpa using hk),List.getElem_range]
   rw [hdrop,List.foldl_cons] at hf
   have w4 : IntKind.i64.wrap ((k : Int) + 1) = ((k + 1 : Nat) : Int):=by rw [IntKind.wrap_i64]; omega
   clear hdrop
   obtain ⟨v0,v1,v2,v3,v4,v5,v6,v7,v8,v9,v10,v11,v12,v13,v14,v15,v16,v17,v18,v19,v20,v21,v22,v23,v24,v25,v26,v27,v28,v29,v30,v31,v32,v33,v34,v35,v36,v37,v38,v39,v40,v41,v42,v43,v44,v45,v46,v47,v48,v49,v50,v51,v52,v53,v54,v55,v56,v57,v58,v59,v60,v61,v62,v63,v64,v65,v66,v67,v68,v69,v70,v71,v72,v73,v74,v75,v76,v77,rfl⟩:=array78 T h78
   simp only [List.getElem?_toArray,List.getElem?_cons_zero,List.getElem?_cons_succ,Option.some.injEq] at t0 t7 t12 t50 t51 t58 t59 t60
   subst t0 t7 t12 t50 t51 t58 t59 t60
   clear h78
   refine (fun (h : ∀ X,X = T3 -> To Try.prog Post E (Las Try.prog E 3) 0 0 0 N role V (G ((base 78).at ⟨_,[]⟩ (.code X :: .inLoop T3 :: .inBlock 4 :: kt)) (bQ.at aQ (.inRegion opsQ (iQ :: restQ) :: kQ) :: cs0)))=>h T3 rfl) ?_
   intro X hX
   simp only [T3,T2,Tz,B78,sqa,sqb,blk,lop,Try.f78,Option.getD_some] at hX
   subst hX
   obtain ⟨K,hK,hV,key,yek⟩:=kKV (L:=Lone) (J:=fun g=>To Try.prog Post E (Las Try.prog E 3) 0 0 0 N role V g) (mu_to hO.ok) (muv_to hO.ok hn)
   refine key _ ?_
   refine wA fun kk hkk=>?_
   refine hK.cl rfl rfl rfl Try.func108 rfl ?_
   walk_nrm
   refine yek _ ?_
   clear hK hV key yek K
   clear e9
   refine ms_turn hO hU (by omega) L M hk (fun t σY NX roleY VX owY MY ht hf'=>?_)
   walk_nrm
   have hnY:=MY.sea.nrm
   cases t with
   | false =>
     obtain ⟨rfl,hno⟩:=hf' rfl
     have hstp : stp U (σY,xsQ) k = (σY,xsQ):=by unfold stp; rw [if_neg hno]
     rw [hstp] at hf
     obtain ⟨K,hK,hV,key,yek⟩:=kKV (L:=Lone) (J:=fun g=>To Try.prog Post E (Las Try.prog E 3) 0 0 0 NX roleY VX g) (mu_to hO.ok) (muv_to hO.ok hnY)
     refine key _ ?_
     refine wA fun kk hkk=>?_
     refine mu_inLoop hK ?_
     refine yek _ ?_
     clear hK hV key yek K
     refine ih (k + 1) _ σY xsQ owY roleY NX VX _ (by omega) MY hf (by omega) ?_ ?_ ?_ ?_
     . exact ⟨by simp,rfl,rfl,rfl,rfl,rfl⟩
     . rw [hl]; rfl
     . rfl
     . rfl
   | true =>
     obtain ⟨rfl,hyes⟩:=ht rfl
     have hstp : stp U (σQ,xsQ) k = (U.turn σQ k,xsQ ++ [k]):=by unfold stp; rw [if_pos hyes]
     rw [hstp] at hf
     refine wB (L:=Lone) (J:=fun g=>To Try.prog Post E (Las Try.prog E 3) 0 0 0 NX roleY VX g) (mu_to hO.ok) (muv_to hO.ok hnY) fun kk hkk=>?_
     have M₃:=ms_alloc hU MY (.int .i64 (k : Int))
     have hn₃:=M₃.sea.nrm
     refine mua_put (L:=Lone) (v:=.slice (some ⟨VX.heap.size,0,none⟩) 1 1) (mua_to hO.ok hn₃) (K:=fun g=>To Try.prog Post E (Las Try.prog E 3) 0 0 0 NX roleY VX g) (K':=fun g=>To Try.prog Post E (Las Try.prog E 3) 0 0 0 NX roleY (VX.alloc (.cells #[.int .i64 (k : Int)] 3)) g) rfl (.inl rfl) rfl (by kernel_rfl) (fun τ=>?_) ?_
     . go_simp
       exact ⟨rfl,rfl⟩
     have hc₃ : (VX.alloc (.cells #[.int .i64 (k : Int)] 3)).cell? ⟨VX.heap.size,0,none⟩ = some (.int .i64 (k : Int)):=cell_of (b:=VX.heap.size) (k:=0) (cs:=#[.int .i64 (k : Int)]) (t:=3) (f:=(0,0)) (by rw [alloc_get,if_pos rfl]) (by simp)
     generalize VX.alloc (.cells #[.int .i64 (k : Int)] 3) = V₃ at *
     walk_nrm
     refine to_ex (L:=Lone) hO.ok rfl rfl rfl (by kernel_rfl) (fun v W=>W.ownsRow 0 3 1 v (xsQ.length + 1) (ints xsQ ++ [.int .i64 k]) /\ Grew V₃ W (Value.ownBlock v7) /\ (v.ownBlock = Value.ownBlock v7 ∨ v.ownBlock = some V₃.heap.size)) (fun τ=>?_) (fun ov₄ V₄ ⟨r1,r2,r3⟩ hn₄=>?_)
     . obtain ⟨v',w',a1,a2,a3,a4⟩:=app_run M₃ (ad:=VX.heap.size) (c:=1) hc₃ (by omega) τ 23
       refine ⟨v',w',?_,a2,a3,a4⟩
       exact run_app_op (s:=.tmp 67) (x:=.tmp 69) rfl rfl rfl a1
     have M₄:=ms_app hU hQ M₃ hn₄ r1 r2 r3
     walk_nrm
     obtain ⟨K,hK,hV,key,yek⟩:=kKV (L:=Lone) (J:=fun g=>To Try.prog Post E (Las Try.prog E 3) 0 0 0 NX roleY V₄ g) (mu_to hO.ok) (muv_to hO.ok hn₄)
     refine key _ ?_
     refine wA fun kk hkk=>?_
     refine mu_inLoop hK ?_
     refine yek _ ?_
     clear hK hV key yek K
     refine ih (k + 1) _ _ (xsQ ++ [k]) _ roleY NX V₄ _ (by omega) M₄ hf (by simp; omega) ?_ ?_ ?_ ?_
     . exact ⟨by simp,rfl,rfl,rfl,rfl,rfl⟩
     . rw [hl]; rfl
     . rfl
     . rfl
end
end
end Go.Proofs.Ytibcdikfbhmheaa
