import Derived.Test.YtibcdikfbhmheaaB05
import Derived.Test.YtibcdikfbhmheaaChecked
import Derived.Conc.WgGenW
import Derived.Test.YtibcdikfbhmheaaB04
set_option linter.unusedSimpArgs false
set_option linter.unusedVariables false
set_option maxRecDepth 100000
namespace Go.Proofs.Ytibcdikfbhmheaa
open Go Go.Conc
open Go.ConcN (sumTo upd sumTo_upd upd_ne upd_same)
section
variable {P : Program} {E : Env} {ro : Nat -> Ro} {dh : Nat} {V : World} {T : Trace} {gs : Array Goroutine} {w : World} {q : Nat -> Nat} {st sm : Int} {gY : Goroutine}
theorem touch_cell {E : Env} {a : Addr} {wr : Bool} {b : Touch} (h : (MemAct.ofEvent ⟨.cell a,wr,true⟩).touch? = some b) : b = ⟨.cell a,wr,.atomic⟩:=by
 cases wr <;> simpa [MemAct.ofEvent,MemAct.touch?] using h.symm
theorem Wb.by_step (hE : EnvOk E) (C : Wb P E ro dh V T gs w q st sm) {i : Nat} {g a : Goroutine} {m : Nat} {sl : Option (Nat × Nat)} (ha : gs[0]? = some a) (hm : Main P E gY sm m a) (hi : gs[i]? = some g) (hpos : 0 < i) (hrun : g.status = .running) :
   ∃ (gs' : Array Goroutine) (w' : World) (ops : Array MemOp) (q' : Nat -> Nat) (ro' : Nat -> Ro) (st' sm' : Int) (a' : Goroutine) (m' : Nat),runT P (crowd gs w sl) i = (.next (crowd gs' w' sl),ops) /\ gs'.size = gs.size /\ gs'[0]? = some a' /\ Main P E gY sm' m' a' /\ Wb P E ro' dh V (T ++ ops) gs' w' q' st' sm' /\ 2 * sumTo gs.size q' + m' < 2 * sumTo gs.size q + m /\ Kin w w':=by
 have hlt : i < gs.size:=(Array.getElem?_eq_some_iff.1 hi).1
 have hi0 : (i == 0) = false:=by simp; omega
 have hmine : ∀ {fn : FuncId} {pos : String} {es : Array Event},∀ op ∈ MemOp.ofEvents i fn pos es,op.g = i:=fun op hop=>by obtain ⟨e,_,rfl⟩:=Go.Conc.mem_ofEvents hop; rfl
 have hne : i ≠ 0:=by omega
 have hnM : ¬ i = 0:=hne
 have hsum : ∀ k,k < q i -> sumTo gs.size (upd q i k) < sumTo gs.size q:=by
   intro k hqi
   have h2 : sumTo gs.size (upd q i k) + q i = sumTo gs.size q + k:=sumTo_upd q k id hlt
   omega
 -- what becomes of main
 have hmain : ∀ (g' : Goroutine) (w' : World) (sm' : Int),(sm' = sm ∨ (mayWake P g = true /\ g'.status = .running)) -> ∃ m',m' <= m + 1 /\ Main P E gY sm' m' (woken P g g' w' a):=by
   intro g' w' sm' hw
   rcases hm with hW | ⟨rfl,rfl,gQ,hS,rfl⟩
   . rw [woken_of_again (again_running w' (.inl hW.status.1))]
     exact ⟨m,by omega,.inl hW⟩
   . have hag : Goroutine.again w' { gQ with status:=.blocked } = gQ:=by
       have h1:=hS.2.1
       have h2:=hS.1
       cases gQ
       simp only at h1 h2
       subst h1 h2
       rfl
     by_cases hc : (mayWake P g && g'.status != .blocked && g'.status != .waiting) = true
     . refine ⟨1,by omega,.inl ?_⟩
       unfold woken
       rw [if_pos hc,hag]
       exact .here hS
     . refine ⟨0,by omega,.inr ⟨rfl,?_,gQ,hS,?_⟩⟩
       . rcases hw with h | ⟨h1,h2⟩
         . exact h
         . simp [h1,h2] at hc
       . unfold woken
         rw [if_neg hc]
 -- the end of every case
 have put : ∀ (g' : Goroutine) (w' : World) (es : Array Event) (n' : Nat) (ro' : Nat -> Ro) (st' sm' : Int),stepG P (i == 0) g w = .go g' w' es -> n' < q i -> (sm' = sm ∨ (mayWake P g = true /\ g'.status = .running)) -> (∀ x,x ≠ i -> ro' x = ro x) ->
     IdleB P E (T ++ MemOp.ofEvents i g.frame.fn g.frame.place es) i n' g' (ro' i) -> ChanKept w w' -> KW P E w' -> pz E.Z w' = V -> w'.cell? E.st = some (.int .u64 st') -> w'.cell? E.sm = some (.int .u32 sm') -> MB gs.size ro' st' sm' ->
     PastR (fun _=>False) E.shun (fun g=>g = 0) (fun _=>False) w'.heap.size 0 dh (T ++ MemOp.ofEvents i g.frame.fn g.frame.place es) ->
     ∃ (gs' : Array Goroutine) (w' : World) (ops : Array MemOp) (q' : Nat -> Nat) (ro' : Nat -> Ro) (st' sm' : Int) (a' : Goroutine) (m' : Nat),runT P (crowd gs w sl) i = (.next (crowd gs' w' sl),ops) /\ gs'.size = gs.size /\ gs'[0]? = some a' /\ Main P E gY sm' m' a' /\ Wb P E ro' dh V (T ++ ops) gs' w' q' st' sm' /\ 2 * sumTo gs.size q' + m' < 2 * sumTo gs.size q + m /\ Kin w w':=by
   intro g' w' es n' ro' st' sm' hstp hn hsm hro hidle hck hkeep hview hst hsm' hmode hpast
   obtain ⟨m',hm',hM'⟩:=hmain g' w' sm' hsm
   obtain ⟨h0,h1,h2⟩:=arr_after C (w':=w') (g':=g') hpos hi ha
   have:=hsum n' hn
   exact ⟨_,w',_,upd q i n',ro',st',sm',_,m',runT_crowd_go (sl:=sl) hi hstp,by simp,h0,hM',C.put hpos hlt (by simp) h2 h1 hmine hro hidle hck hkeep hview hst hsm' hmode hpast,by omega,hck.kin⟩
 -- a step that touches nothing
 have mute : ∀ (g' : Goroutine) (es : Array Event) (n' : Nat),stepG P (i == 0) g w = .go g' w es -> (∀ e ∈ es,(MemAct.ofEvent e).touch? = none) -> (∀ e ∈ es,(MemAct.ofEvent e).low w.heap.size) -> n' < q i ->
     IdleB P E (T ++ MemOp.ofEvents i g.frame.fn g.frame.place es) i n' g' (ro i) ->
     ∃ (gs' : Array Goroutine) (w' : World) (ops : Array MemOp) (q' : Nat -> Nat) (ro' : Nat -> Ro) (st' sm' : Int) (a' : Goroutine) (m' : Nat),runT P (crowd gs w sl) i = (.next (crowd gs' w' sl),ops) /\ gs'.size = gs.size /\ gs'[0]? = some a' /\ Main P E gY sm' m' a' /\ Wb P E ro' dh V (T ++ ops) gs' w' q' st' sm' /\ 2 * sumTo gs.size q' + m' < 2 * sumTo gs.size q + m /\ Kin w w':=by
   intro g' es n' hstp htouch hlow hn hidle
   refine put g' w es n' ro st sm hstp hn (.inl rfl) (fun _ _=>rfl) hidle (ChanKept.refl w) C.keep C.view C.cst C.csm C.mode ?_
   exact C.past.appMute hmine (fun op hop=>by obtain ⟨e,he,rfl⟩:=Go.Conc.mem_ofEvents hop; exact htouch e he) (fun hM _=>absurd hM hnM) ((Deaf_other T hne _ hmine).trans C.past.deafh) (fun op hop=>by obtain ⟨e,he,rfl⟩:=Go.Conc.mem_ofEvents hop; exact hlow e he)
 -- atomic touches of the count and of the semaphore
 have atomic : ∀ (w' : World) (es : Array Event),w'.heap.size = w.heap.size -> (∀ e ∈ es,∀ b,(MemAct.ofEvent e).touch? = some b -> E.shun b.loc /\ b.kind = .atomic) -> (∀ e ∈ es,(MemAct.ofEvent e).low w.heap.size) -> (∀ k,k < es.size -> 0 < deafBehind (Deaf T i) (es.extract 0 k)) ->
     PastR (fun _=>False) E.shun (fun g=>g = 0) (fun _=>False) w'.heap.size 0 dh (T ++ MemOp.ofEvents i g.frame.fn g.frame.place es):=by
   intro w' es hsz htouch hlow hdeep
   rw [hsz]
   exact C.past.appAtomic (fun _ h=>h.elim) hnM hne hmine (fun op hop b hb=>by obtain ⟨e,he,rfl⟩:=Go.Conc.mem_ofEvents hop; exact htouch e he b hb) (unheard hdeep) (fun op hop=>by obtain ⟨e,he,rfl⟩:=Go.Conc.mem_ofEvents hop; exact hlow e he)
 have ltst:=cell_lt C.cst
 have ltsm:=cell_lt C.csm
 have hid:=C.idle i g hpos hi
 obtain ⟨ro0,e⟩ : ∃ ro0,ro i = ro0:=⟨_,rfl⟩
 generalize hdi : Deaf T i = d at *
 cases ro0 with
 | quit =>
   rw [e] at hid
   replace hid : QuitsD P (q i) d g:=by have:=hid; unfold IdleB at this; rw [hdi] at this; exact this
   cases hqi : q i with
   | zero=>rw [hqi] at hid; rw [hid.1] at hrun; cases hrun
   | succ k =>
     rw [hqi] at hid
     rcases hid with ⟨hf,_⟩ | ⟨_,g',es,hmt,hstp,hq'⟩
     . rw [hf] at hrun; cases hrun
     exact mute g' es k (by rw [hi0]; exact hstp w) (fun e he=>touch_mute (hmt e he)) (fun e he=>low_mute (hmt e he) _) (by omega) (by rw [e]; show QuitsD _ _ _ _; rw [Deaf_own,hdi]; exact hq')
 | fin =>
   rw [e] at hid
   replace hid : Fin P E (Las P E 3) (q i) d g:=by have:=hid; unfold IdleB at this; rw [hdi] at this; exact this
   generalize hqi : q i = n at hid
   cases hid with
   | @plain n d g g' hr hs hf =>
     exact mute g' #[] n (by rw [hi0]; exact hs w C.sw) (by simp) (by simp) (by omega) (by rw [e]; show Fin _ _ _ _ _ _; rw [Deaf_own,hdi]; exact hf)
   | @rel n g g' hr hs hf =>
     exact mute g' _ n (by rw [hi0]; exact hs w C.sw) (by simp [MemAct.ofEvent,MemAct.touch?]) (by simp [MemAct.ofEvent,MemAct.low]; exact ltst) (by omega) (by rw [e]; show Fin _ _ _ _ _ _; rw [Deaf_own,hdi]; exact hf)
   | @dis n d g g' hr hs hf =>
     exact mute g' _ n (by rw [hi0]; exact hs w C.sw) (by simp [MemAct.ofEvent,MemAct.touch?]) (by simp [MemAct.ofEvent,MemAct.low]) (by omega) (by rw [e]; show Fin _ _ _ _ _ _; rw [Deaf_own,hdi]; exact hf)
   | @add n mQ d g hr hs =>
     have hone:=fins_one hpos e
     have hle : fins ro i <= sumTo gs.size (fins ro):=Go.ConcN.le_sumTo (f:=fins ro) hlt
     have hes : ∀ e ∈ (#[⟨.cell E.st,false,true⟩,⟨.cell E.st,true,true⟩] : Array Event),(∀ b,(MemAct.ofEvent e).touch? = some b -> E.shun b.loc /\ b.kind = .atomic) /\ (MemAct.ofEvent e).low w.heap.size:=by
       intro e he
       simp only [List.mem_toArray,List.mem_cons,List.not_mem_nil,or_false] at he
       rcases he with rfl | rfl <;> exact ⟨fun b hb=>by rw [touch_cell (E:=E) hb]; exact ⟨shun_st hE,rfl⟩,ltst⟩
     have hdeep : ∀ k,k < (#[⟨.cell E.st,false,true⟩,⟨.cell E.st,true,true⟩] : Array Event).size -> 0 < deafBehind (d + 1) ((#[⟨.cell E.st,false,true⟩,⟨.cell E.st,true,true⟩] : Array Event).extract 0 k):=fun k hk=>by
       have : k = 0 ∨ k = 1:=by simp at hk; omega
       rcases this with rfl | rfl <;> simp [deafBehind]
     have hdb : deafBehind (d + 1) (#[⟨.cell E.st,false,true⟩,⟨.cell E.st,true,true⟩] : Array Event) = d + 1:=deafBehind_still (fun e he=>by
       simp only [List.mem_toArray,List.mem_cons,List.not_mem_nil,or_false] at he
       rcases he with rfl | rfl <;> simp) _
     have hmd:=C.mode
     cases hmd with
     | reg h v hv hb =>
       have hcst:=C.cst
       obtain ⟨g',hstp,hquit,hlast⟩:=hs w v 1 C.keep (by omega) (by omega) (by rw [hcst]; simp)
       have hcount : sumTo gs.size (upd (fins ro) i 0) + 1 = v + 1:=by
         have h2 : sumTo gs.size (upd (fins ro) i 0) + fins ro i = sumTo gs.size (fins ro) + 0:=sumTo_upd (fins ro) 0 id hlt
         omega
       have hcst' : (w.setCell E.st (.int .u64 (v * two32 + (1 : Nat)))).cell? E.st = some (.int .u64 (v * two32 + 1)):=by rw [cell_setSt_self hE hcst]; simp
       have hcsm' : (w.setCell E.st (.int .u64 (v * two32 + (1 : Nat)))).cell? E.sm = some (.int .u32 0):=by rw [cell_setSt_ne _ (.inr hE.sm.2.2.1)]; exact C.csm
       rcases Nat.eq_zero_or_pos v with rfl | hvp
       . have hz:=hlast ⟨rfl,rfl⟩
         refine put g' _ _ mQ (upd ro i (.las 3)) 1 0 (by rw [hi0]; exact hstp) (by omega) (.inl rfl) (fun x hx=>upd_ne ro _ hx) ?_ (ChanKept.setCell w E.st _) (C.keep.setSt hE _) ((pz_setSt hE C.keep.1 _).trans C.view) (by simpa using hcst') hcsm' ?_ (atomic _ _ (size_setCell _ _ _) (fun e he=>(hes e he).1) (fun e he=>(hes e he).2) hdeep)
         . rw [upd_same]
           show Las _ _ _ _ _ _
           rw [Deaf_own,hdi,hdb]; exact hz
         . have:=MB.las (ro:=upd ro i (.las 3)) (n:=gs.size) i 3 hpos hlt (upd_same _ _ _) (by simp) (fun x h1 h2 h3=>by
             rw [upd_ne _ _ h3]
             rcases h x h1 h2 with h4 | h4
             . exfalso
               have h5 : upd (fins ro) i 0 x <= sumTo gs.size (upd (fins ro) i 0):=Go.ConcN.le_sumTo (f:=upd (fins ro) i 0) h2
               rw [upd_ne _ _ h3,fins_one h1 h4] at h5
               omega
             . exact h4)
           simpa using this
       . have hz:=hquit (by omega)
         refine put g' _ _ n (upd ro i .quit) ((v : Int) * two32 + 1) 0 (by rw [hi0]; exact hstp) (by omega) (.inl rfl) (fun x hx=>upd_ne ro _ hx) ?_ (ChanKept.setCell w E.st _) (C.keep.setSt hE _) ((pz_setSt hE C.keep.1 _).trans C.view) hcst' hcsm' ?_ (atomic _ _ (size_setCell _ _ _) (fun e he=>(hes e he).1) (fun e he=>(hes e he).2) hdeep)
         . rw [upd_same]
           show QuitsD _ _ _ _
           rw [Deaf_own,hdi,hdb]; exact hz
         . have:=MB.reg (ro:=upd ro i .quit) (n:=gs.size) (fun x h1 h2=>by
             by_cases ex : x = i
             . subst ex; rw [upd_same]; exact .inr rfl
             . rw [upd_ne _ _ ex]; exact h x h1 h2) (v - 1) (by rw [fins_upd hpos _ (by simp)]; omega) (by omega)
           rw [show v - 1 + 1 = v by omega] at this
           exact this
     | las k s hk hkn h hs' ho =>
       exfalso
       by_cases ek : i = k
       . subst ek; rw [e] at h; cases h
       . have:=ho i hpos hlt ek; rw [e] at this; cases this
     | sema h=>have:=h i hpos hlt; rw [e] at this; cases this
 | las s =>
   rw [e] at hid
   replace hid : Las P E s (q i) d g:=by have:=hid; unfold IdleB at this; rw [hdi] at this; exact this
   have hmd:=C.mode
   have hko : ∀ x,0 < x -> x < gs.size -> x ≠ i -> ro x = .quit:=by
     cases hmd with
     | reg h v hv hb=>have:=h i hpos hlt; rw [e] at this; rcases this with h | h <;> cases h
     | las k s hk hkn h hs' ho =>
       by_cases ek : i = k
       . subst ek; exact ho
       . have:=ho i hpos hlt ek; rw [e] at this; cases this
     | sema h=>have:=h i hpos hlt; rw [e] at this; cases this
   have hst' : (s = 1 ∨ s = 2 ∨ s = 3) /\ st = (if s = 1 then 0 else 1) /\ sm = 0:=by
     cases hmd with
     | reg h v hv hb=>have:=h i hpos hlt; rw [e] at this; rcases this with h | h <;> cases h
     | las k s' hk hkn h hs' ho =>
       by_cases ek : i = k
       . subst ek; rw [e] at h; obtain rfl : s = s':=by simpa using h
         exact ⟨hs',rfl,rfl⟩
       . have:=ho i hpos hlt ek; rw [e] at this; cases this
     | sema h=>have:=h i hpos hlt; rw [e] at this; cases this
   obtain ⟨hs123,hstv,rfl⟩:=hst'
   have cst:=C.cst
   have csm:=C.csm
   generalize hqi : q i = n at hid
   have mblas : ∀ s',(s' = 1 ∨ s' = 2 ∨ s' = 3) -> MB gs.size (upd ro i (.las s')) (if s' = 1 then 0 else 1) 0:=fun s' h=>.las i s' hpos hlt (upd_same _ _ _) h (fun x h1 h2 h3=>by rw [upd_ne _ _ h3]; exact hko x h1 h2 h3)
   have one : ∀ (wr : Bool),(∀ e ∈ (#[⟨.cell E.st,wr,true⟩] : Array Event),(∀ b,(MemAct.ofEvent e).touch? = some b -> E.shun b.loc /\ b.kind = .atomic) /\ (MemAct.ofEvent e).low w.heap.size):=fun wr e he=>by
     simp only [List.mem_toArray,List.mem_cons,List.not_mem_nil,or_false] at he
     subst he
     exact ⟨fun b hb=>by rw [touch_cell (E:=E) hb]; exact ⟨shun_st hE,rfl⟩,by cases wr <;> exact ltst⟩
   have onedeep : ∀ (wr : Bool) (dQ : Nat),∀ k,k < (#[⟨.cell E.st,wr,true⟩] : Array Event).size -> 0 < deafBehind (dQ + 1) ((#[⟨.cell E.st,wr,true⟩] : Array Event).extract 0 k):=fun wr dQ k hk=>by
     have : k = 0:=by simp at hk; omega
     subst this
     simp [deafBehind]
   have onedb : ∀ (wr : Bool) (dQ : Nat),deafBehind dQ (#[⟨.cell E.st,wr,true⟩] : Array Event) = dQ:=fun wr dQ=>deafBehind_still (fun e he=>by
     simp only [List.mem_toArray,List.mem_cons,List.not_mem_nil,or_false] at he
     subst he; simp) _
   cases hid with
   | @plain s n d g g' hr hs hf =>
     exact mute g' #[] n (by rw [hi0]; exact hs w C.sw) (by simp) (by simp) (by omega) (by rw [e]; show Las _ _ _ _ _ _; rw [Deaf_own,hdi]; exact hf)
   | @load n d g g' hr hs hf =>
     simp at hstv
     subst hstv
     refine put g' w _ n (upd ro i (.las 2)) 1 0 (by rw [hi0]; exact hs w C.keep cst) (by omega) (.inl rfl) (fun x hx=>upd_ne ro _ hx) ?_ (ChanKept.refl w) C.keep C.view cst csm (by simpa using mblas 2 (by simp)) (atomic _ _ rfl (fun e he=>(one _ e he).1) (fun e he=>(one _ e he).2) (onedeep _ d))
     rw [upd_same]
     show Las _ _ _ _ _ _
     rw [Deaf_own,hdi,onedb]; exact hf
   | @store n d g g' hr hs hf =>
     simp at hstv
     subst hstv
     refine put g' _ _ n (upd ro i (.las 1)) 0 0 (by rw [hi0]; exact hs w C.keep cst) (by omega) (.inl rfl) (fun x hx=>upd_ne ro _ hx) ?_ (ChanKept.setCell w E.st _) (C.keep.setSt hE _) ((pz_setSt hE C.keep.1 _).trans C.view) (cell_setSt_self hE cst) (by rw [cell_setSt_ne _ (.inr hE.sm.2.2.1)]; exact csm) (by simpa using mblas 1 (by simp)) (atomic _ _ (size_setCell _ _ _) (fun e he=>(one _ e he).1) (fun e he=>(one _ e he).2) (onedeep _ d))
     rw [upd_same]
     show Las _ _ _ _ _ _
     rw [Deaf_own,hdi,onedb]; exact hf
   | @rel n d g g' hr hs hwk hr' hf =>
     simp at hstv
     subst hstv
     have hE':=swapOk hE
     refine put g' _ _ n (upd ro i .quit) 0 1 (by rw [hi0]; exact hs w C.keep csm) (by omega) (.inr ⟨hwk,hr'⟩) (fun x hx=>upd_ne ro _ hx) ?_ (ChanKept.setCell w E.sm _) (KW.setSt (E:=swapE E) hE' C.keep _) ((pz_setSt (E:=swapE E) hE' C.keep.1 _).trans C.view) (by rw [cell_setSt_ne _ (.inr fun h=>hE.sm.2.2.1 h.symm)]; exact cst) (cell_setSt_self (E:=swapE E) hE' csm) ?_ (atomic _ _ (size_setCell _ _ _) (fun e he b hb=>?_) (fun e he=>?_) (fun k hk=>?_))
     . rw [upd_same]
       show QuitsD _ _ _ _
       rw [Deaf_own,hdi]; exact hf
     . exact .sema (fun x h1 h2=>by
         by_cases ex : x = i
         . subst ex; rw [upd_same]
         . rw [upd_ne _ _ ex]; exact hko x h1 h2 ex)
     . simp only [semEvents,List.mem_toArray,List.mem_cons,List.not_mem_nil,or_false] at he
       rcases he with rfl | rfl | rfl | rfl
       . simp [MemAct.ofEvent,MemAct.touch?] at hb
       . rw [touch_cell (E:=E) hb]; exact ⟨shun_sm hE,rfl⟩
       . rw [touch_cell (E:=E) hb]; exact ⟨shun_sm hE,rfl⟩
       . simp [MemAct.ofEvent,MemAct.touch?] at hb
     . simp only [semEvents,List.mem_toArray,List.mem_cons,List.not_mem_nil,or_false] at he
       rcases he with rfl | rfl | rfl | rfl
       . trivial
       . exact ltsm
       . exact ltsm
       . trivial
     . have : k = 0 ∨ k = 1 ∨ k = 2 ∨ k = 3:=by simp [semEvents] at hk; omega
       rcases this with rfl | rfl | rfl | rfl <;> simp [semEvents,deafBehind]
end
section
variable {P : Program} {Post : Value -> World -> Prop} {Z : Cuts} {V : World} {g : Goroutine} {E : Env} {Lst : Nat -> Nat -> Goroutine -> Prop} {h dh pend n : Nat} {role : Nat -> Role}
theorem To.load (hE : EnvOk E) {g' : Nat -> Goroutine} (hrun : g.status = .running)
   (hs : ∀ w (v : Nat),pz E.Z w = V -> KW P E w -> v < 2147483647 -> w.cell? E.st = some (.int .u64 (v * two32)) -> stepG P (h == 0) g w = .go (g' v) w #[⟨.cell E.st,false,true⟩])
   (K : ∀ v roleQ,v < 2147483647 -> RoleLe role roleQ -> sumTo n (counts roleQ) + pend = v -> roleQ h = .fin -> To P Post E Lst h dh pend n roleQ V (g' v)) : To P Post E Lst h dh pend n role V g:=fun T gs w q role' sl hle hsz ha C=>by
 obtain ⟨N,gsQ,wY,d',slQ,slY,TQ,qQ,roleQ,hrn,hst,hszQ,haQ,hleQ,CQ,kn⟩:=C.picked (sl:=sl) hE ha hrun
 have hgo:=hs (wY.at d') _ CQ.view CQ.keep CQ.small CQ.count
 have hev : ∀ e ∈ (#[⟨.cell E.st,false,true⟩] : Array Event),EvM E (wY.at d').heap.size e:=fun e he=>evM_atomic hE CQ.count e (by
   simp only [List.mem_toArray,List.mem_cons,List.not_mem_nil,or_false] at he ⊢
   exact .inl he)
 obtain ⟨CY,haY⟩:=CQ.ownX hE (a':=g' (sumTo gsQ.size (counts roleQ) + pend)) haQ (ChanKept.refl _) rfl CQ.keep CQ.view hev CQ.count CQ.small CQ.sema
 have hd : deafBehind dh (#[⟨.cell E.st,false,true⟩] : Array Event) = dh:=deafBehind_still (fun e he=>by
   simp only [List.mem_toArray,List.mem_cons,List.not_mem_nil,or_false] at he
   subst he; simp) dh
 rw [hd] at CY
 have hr:=runNT_succ_of hrn (hst.trans (runT_crowd_go (P:=P) (sl:=slY) haQ hgo))
 exact Ends.of_steps hr (Ends.kin (kn.at d') (K _ roleQ CQ.small (hle.trans hleQ) (by rw [hszQ,hsz]) CQ.holder _ _ _ _ roleQ _ (RoleLe.refl _) (by simp [hszQ,hsz]) haY CY))
theorem role_zero {n : Nat} (hc : sumTo n (counts role) = 0) {x : Nat} (hx : 0 < x) (hn : x < n) : role x = .quit:=by
 have h1 : counts role x <= sumTo n (counts role):=Go.ConcN.le_sumTo (f:=counts role) hn
 have h2 : counts role x = 0:=by omega
 unfold counts at h2
 rw [if_neg (by omega)] at h2
 cases e : role x with
 | quit=>rfl
 | fin=>rw [e] at h2; simp at h2
 | seat c z r=>rw [e] at h2; simp at h2
theorem Rg.end {T : Trace} {gs : Array Goroutine} {w : World} {q : Nat -> Nat} (C : Rg P E Lst role 0 0 0 V T gs w q) (hq : ∀ x,0 < x -> role x = .quit) (hno : ∀ b,E.Z b ≠ some (3,0,0)) : Al P E.Z V T gs w q:=by
 have hns : ∀ x,isSeat (role x) = false:=fun x=>by
   rcases Nat.eq_zero_or_pos x with rfl | hx
   . rw [C.holder]; rfl
   . rw [hq x hx]; rfl
 refine ⟨⟨fun j x hj hx=>?_,fun j hj=>(C.above j hj).1⟩,?_,C.keep.1,C.view,C.rest,fun b hz=>absurd hz (hno b)⟩
 . have:=C.idle j x (by omega) hx
   rw [hq j hj] at this
   exact this.2
 . refine ⟨C.past.clean,fun i a ha hm=>?_,C.past.shun,fun i a ha hw hS=>hS.elim,fun g hg hne=>absurd hg hne,C.past.deafh,C.past.seen⟩
   rcases C.past.known i a ha hm with h1 | ⟨_,_,g,_,_,h4⟩ | h3
   . exact .inl h1
   . rw [hns g] at h4; cases h4
   . exact .inr (.inr h3)
theorem To.close (K : To0 P Post E.Z V g) (hno : ∀ b,E.Z b ≠ some (3,0,0)) (hq : ∀ x,0 < x -> role x = .quit) : To P Post E Lst 0 0 0 n role V g:=fun T gs w q role' sl hle hsz ha C =>
 K T gs w q sl ha (C.end (fun x hx=>by
   rcases hle x with h1 | ⟨h1,_⟩
   . rw [h1]; exact hq x hx
   . rw [hq x hx] at h1; cases h1) hno)
def toRo (role : Nat -> Role) (x : Nat) : Ro:=match role x with | .quit=>.quit | _=>.fin
theorem fins_toRo (hns : ∀ x,isSeat (role x) = false) : fins (toRo role) = counts role:=by
 funext x
 have h:=hns x
 unfold fins counts toRo
 by_cases e0 : x = 0
 . rw [if_pos e0,if_pos e0]
 . rw [if_neg e0,if_neg e0]
   generalize role x = r at *
   cases r with
   | quit=>rfl
   | fin=>rfl
   | seat c z r=>cases h
theorem Wb.runs (hE : EnvOk E) {gY a : Goroutine} {ro : Nat -> Ro} {T : Trace} {gs : Array Goroutine} {w : World} {q : Nat -> Nat} {st sm : Int} {m : Nat} {sl : Option (Nat × Nat)} (C : Wb P E ro dh V T gs w q st sm) (ha : gs[0]? = some a) (hM : Main P E gY sm m a) :
   ∃ (N : Nat) (gs' : Array Goroutine) (w' : World) (sl' : Option (Nat × Nat)) (T' : Trace) (q' : Nat -> Nat),runNT P N (crowd gs w sl) T = (.next (crowd gs' w' sl'),T') /\ gs'.size = gs.size /\ gs'[0]? = some gY /\ Rg P E Lst role0 0 dh 0 V T' gs' w' q' /\ Kin w w':=by
 suffices hfin : ∃ N m' T',runNT P N (crowd gs w sl) T = (.next m',T') /\ (fun m t=>∃ gs' w' sl' q',m = crowd gs' w' sl' /\ gs'.size = gs.size /\ gs'[0]? = some gY /\ Rg P E Lst role0 0 dh 0 V t gs' w' q' /\ Kin w w') m' T' by
   obtain ⟨N,m',T',hr,gs',w',sl',q',rfl,h1,h2,h3⟩:=hfin
   exact ⟨N,gs',w',sl',T',q',hr,h1,h2,h3⟩
 refine runs_until (P:=P)
   (Inv:=fun μ mm t=>(∃ gs' w' sl' q',mm = crowd gs' w' sl' /\ gs'.size = gs.size /\ gs'[0]? = some gY /\ Rg P E Lst role0 0 dh 0 V t gs' w' q' /\ Kin w w') ∨
     ∃ gsQ wY slQ qQ roQ stQ smQ aY mY,mm = crowd gsQ wY slQ /\ gsQ.size = gs.size /\ gsQ[0]? = some aY /\ Main P E gY smQ mY aY /\ Wb P E roQ dh V t gsQ wY qQ stQ smQ /\ Kin w wY /\ μ = 2 * sumTo gsQ.size qQ + mY)
   (fun μ mm t hInv=>?_) _ _ T (.inr ⟨gs,w,sl,q,ro,st,sm,a,m,rfl,rfl,ha,hM,C,Kin.refl _,rfl⟩)
 rcases hInv with hdone | ⟨gsQ,wY,slQ,qQ,roQ,stQ,smQ,aY,mY,rfl,hsz,haQ,hMQ,CQ,kn,hμ⟩
 . exact .inl hdone
 refine .inr ?_
 have haw : ∀ g ∈ gsQ,awake g:=by
   intro g hg
   obtain ⟨i,hi,rfl⟩:=Array.mem_iff_getElem.1 hg
   rcases Nat.eq_zero_or_pos i with rfl | hpos
   . have e : gsQ[0] = aY:=by simpa [Array.getElem?_eq_getElem hi] using haQ
     rw [e]
     rcases hMQ with hW | ⟨_,_,gQ,hS,rfl⟩
     . exact awake_of (.inl hW.status.1)
     . exact awake_of (.inr (.inl rfl))
   . exact awake_of ((CQ.status hpos (Array.getElem?_eq_getElem hi)).elim .inl fun x=>.inr (.inr x))
 have hsome : ∃ (i : Nat) (g : Goroutine),gsQ[i]? = some g /\ g.status = .running:=by
   rcases hMQ with hW | ⟨_,h0,_⟩
   . exact ⟨0,aY,haQ,hW.status.1⟩
   . obtain ⟨x,y,_,h2,h3⟩:=CQ.running h0
     exact ⟨x,y,h2,h3⟩
 obtain ⟨i,g,d',sl',hi,hg,hst⟩:=crowd_pick (P:=P) (w:=wY) (sl:=slQ) haw hsome
 have Cd:=CQ.at d'
 rcases Nat.eq_zero_or_pos i with rfl | hpos
 . obtain rfl : g = aY:=by rw [haQ] at hi; exact (Option.some.inj hi).symm
   have hlt : 0 < gsQ.size:=(Array.getElem?_eq_some_iff.1 haQ).1
   have hW : Wy P E gY mY g:=by
     rcases hMQ with hW | ⟨_,_,gQ,hS,rfl⟩
     . exact hW
     . cases hg
   have hfix : ∀ (g' : Goroutine) (w' : World) (x : Nat),0 < x -> ((gsQ.map (woken P g g' w')).setIfInBounds 0 g')[x]? = gsQ[x]?:=fun g' w' x hx=>by
     rw [Array.getElem?_setIfInBounds_ne (by omega),Array.getElem?_map]
     cases e : gsQ[x]? with
     | none=>rfl
     | some y=>simp [woken_of_again (P:=P) (x:=g) (x':=g') (again_running w' (CQ.status hx e))]
   have hself : ∀ (g' : Goroutine) (w' : World),((gsQ.map (woken P g g' w')).setIfInBounds 0 g')[0]? = some g':=fun g' w'=>Array.getElem?_setIfInBounds_self_of_lt (by simpa using hlt)
   have hmine : ∀ {fn : FuncId} {pos : String} {es : Array Event},∀ op ∈ MemOp.ofEvents 0 fn pos es,op.g = 0:=fun op hop=>by obtain ⟨e,_,rfl⟩:=Go.Conc.mem_ofEvents hop; rfl
   have hidle : ∀ (ops : Array MemOp),(∀ op ∈ ops,op.g = 0) -> ∀ {gs' : Array Goroutine},(∀ x,0 < x -> gs'[x]? = gsQ[x]?) -> ∀ x y,0 < x -> gs'[x]? = some y -> IdleB P E (t ++ ops) x (qQ x) y (roQ x):=fun ops hops gs' hgs x y hx hy=>by
     rw [hgs x hx] at hy
     have hid:=CQ.idle x y hx hy
     have hD : Deaf (t ++ ops) x = Deaf t x:=Deaf_other t (fun z=>by omega) ops hops
     cases es : roQ x with
     | quit=>rw [es] at hid; show QuitsD _ _ _ _; rw [hD]; exact hid
     | fin=>rw [es] at hid; show Fin _ _ _ _ _ _; rw [hD]; exact hid
     | las s=>rw [es] at hid; show Las _ _ _ _ _ _; rw [hD]; exact hid
   have habove : ∀ (ops : Array MemOp),(∀ op ∈ ops,op.g = 0) -> ∀ {gs' : Array Goroutine},gs'.size = gsQ.size -> ∀ j,gs'.size <= j -> Deaf (t ++ ops) j = 0:=fun ops hops gs' hs j hj=>by
     rw [Deaf_other t (g':=0) (by omega) ops hops]
     exact CQ.above j (by omega)
   cases hW with
   | @plain n g g' hr hs hf =>
     have hgo:=hs (wY.at d') Cd.sw
     refine ⟨_,_,2 * sumTo gsQ.size qQ + n,by rw [hst]; exact runT_crowd_go (sl:=sl') (i:=0) haQ hgo,by omega,.inr ⟨_,wY.at d',sl',qQ,roQ,stQ,smQ,g',n,rfl,by simpa using hsz,hself _ _,.inl hf,?_,kn.at d',by simp⟩⟩
     refine ⟨hidle _ hmine (hfix _ _),Cd.rest,habove _ hmine (by simp),?_,Cd.keep,Cd.view,Cd.cst,Cd.csm,by simpa using Cd.mode⟩
     exact Cd.past.appH hmine (fun op hop=>by simp [MemOp.ofEvents] at hop) (by rw [Deaf_own,CQ.past.deafh]; rfl) (fun op hop=>by simp [MemOp.ofEvents] at hop)
   | @said n g g' hr hs hf =>
     have hgo:=hs (wY.at d') Cd.sw
     refine ⟨_,_,2 * sumTo gsQ.size qQ + n,by rw [hst]; exact runT_crowd_go (sl:=sl') (i:=0) haQ hgo,by omega,.inr ⟨_,wY.at d',sl',qQ,roQ,stQ,smQ,g',n,rfl,by simpa using hsz,hself _ _,.inl hf,?_,kn.at d',by simp⟩⟩
     refine ⟨hidle _ hmine (hfix _ _),Cd.rest,habove _ hmine (by simp),?_,Cd.keep,Cd.view,Cd.cst,Cd.csm,by simpa using Cd.mode⟩
     refine Cd.past.appH hmine (fun op hop b hb=>⟨fun h=>h.elim,fun _=>?_⟩) (by rw [Deaf_own,CQ.past.deafh]; exact deafBehind_still (fun e he=>by simp only [List.mem_toArray,List.mem_cons,List.not_mem_nil,or_false] at he; subst he; simp) _) (fun op hop=>?_)
     . obtain ⟨e,he,rfl⟩:=Go.Conc.mem_ofEvents hop
       simp only [List.mem_toArray,List.mem_cons,List.not_mem_nil,or_false] at he
       subst he
       simp only [MemAct.ofEvent,MemAct.touch?,Option.some.injEq] at hb
       subst hb
       simp
     . obtain ⟨e,he,rfl⟩:=Go.Conc.mem_ofEvents hop
       simp only [List.mem_toArray,List.mem_cons,List.not_mem_nil,or_false] at he
       subst he
       exact cell_lt CQ.csm
   | @here g hS =>
     have hcase : smQ = 0 ∨ (smQ = 1 /\ stQ = 0 /\ ∀ x,0 < x -> x < gsQ.size -> roQ x = .quit):=by
       have:=CQ.mode
       cases this with
       | reg=>exact .inl rfl
       | las=>exact .inl rfl
       | sema h=>exact .inr ⟨rfl,rfl,h⟩
     rcases hcase with rfl | ⟨rfl,rfl,hall⟩
     . have hgo:=hS.2.2.1 (wY.at d') Cd.keep Cd.csm
       refine ⟨_,_,2 * sumTo gsQ.size qQ + 0,by rw [hst]; exact runT_crowd_go (sl:=sl') (i:=0) haQ hgo,by omega,.inr ⟨_,wY.at d',sl',qQ,roQ,stQ,0,_,0,rfl,by simpa using hsz,hself _ _,.inr ⟨rfl,rfl,g,hS,rfl⟩,?_,kn.at d',by simp⟩⟩
       refine ⟨hidle _ hmine (hfix _ _),Cd.rest,habove _ hmine (by simp),?_,Cd.keep,Cd.view,Cd.cst,Cd.csm,by simpa using Cd.mode⟩
       exact Cd.past.appH hmine (fun op hop=>by simp [MemOp.ofEvents] at hop) (by rw [Deaf_own,CQ.past.deafh]; rfl) (fun op hop=>by simp [MemOp.ofEvents] at hop)
     . have hgo:=hS.2.2.2 (wY.at d') Cd.keep Cd.csm
       have hE':=swapOk hE
       refine ⟨_,_,0,by rw [hst]; exact runT_crowd_go (sl:=sl') (i:=0) haQ hgo,by omega,.inl ⟨_,(wY.at d').setCell E.sm (.int .u32 0),sl',qQ,rfl,by simpa using hsz,hself _ _,?_,(kn.at d').trans (Kin.cell _ _ _)⟩⟩
       have hp : PastR (fun _=>False) E.shun (fun g=>g = 0) (fun _=>False) wY.heap.size 0 dh (t ++ MemOp.ofEvents 0 g.frame.fn g.frame.place (semEvents E.sm)):=by
         refine Cd.past.appH hmine (fun op hop b hb=>⟨fun h=>h.elim,fun _=>?_⟩) (by rw [Deaf_own,CQ.past.deafh]; simp [semEvents,deafBehind]) (fun op hop=>?_)
         . obtain ⟨e,he,rfl⟩:=Go.Conc.mem_ofEvents hop
           simp only [semEvents,List.mem_toArray,List.mem_cons,List.not_mem_nil,or_false] at he
           rcases he with rfl | rfl | rfl | rfl <;> simp [MemAct.ofEvent,MemAct.touch?] at hb <;> subst hb <;> simp
         . obtain ⟨e,he,rfl⟩:=Go.Conc.mem_ofEvents hop
           simp only [semEvents,List.mem_toArray,List.mem_cons,List.not_mem_nil,or_false] at he
           rcases he with rfl | rfl | rfl | rfl
           . trivial
           . exact cell_lt CQ.csm
           . exact cell_lt CQ.csm
           . trivial
       refine ⟨fun x y hx hy=>?_,fun c lo hi hz=>?_,fun i c z r hr=>?_,fun i i' c z z' r r' hr _=>?_,rfl,fun j hj=>?_,?_,KW.setSt (E:=swapE E) hE' Cd.keep _,(pz_setSt (E:=swapE E) hE' Cd.keep.1 _).trans Cd.view,?_,?_,?_⟩
       . have hx0 : 0 < x:=by omega
         have hid:=hidle (MemOp.ofEvents 0 g.frame.fn g.frame.place (semEvents E.sm)) hmine (hfix _ _) x y hx0 hy
         have hxl : x < gsQ.size:=by
           have:=(Array.getElem?_eq_some_iff.1 hy).1
           simpa using this
         rw [hall x hx0 hxl] at hid
         have : role0 x = .quit:=by simp [role0,hx]
         rw [this]
         exact ⟨hx0,hid⟩
       . obtain ⟨k,hk⟩:=CQ.rest c lo hi hz
         exact ⟨k,chan_setSt _ _ hk⟩
       . unfold role0 at hr; split at hr <;> cases hr
       . unfold role0 at hr; split at hr <;> cases hr
       . have hj':=hj
         simp only [Array.size_setIfInBounds,Array.size_map] at hj
         have hj0 : j ≠ 0:=by omega
         exact ⟨habove (MemOp.ofEvents 0 g.frame.fn g.frame.place (semEvents E.sm)) hmine (gs':=(gsQ.map (woken P g gY ((wY.at d').setCell E.sm (.int .u32 0)))).setIfInBounds 0 gY) (by simp) j hj',by simp [role0,hj0]⟩
       . rw [size_setCell]
         refine ⟨hp.clean,fun i x hx hm=>?_,hp.shun,fun i x hx hw hS g' hg'=>?_,fun g' hg' hne=>?_,hp.deafh,hp.seen⟩
         . rcases hp.known i x hx hm with h1 | ⟨_,h2,_⟩ | h3
           . exact .inl h1
           . exact h2.elim
           . exact .inr (.inr h3)
         . have hg0 : g' = 0:=by
             rcases hg' with h1 | h1
             . exact h1
             . unfold role0 at h1; split at h1 <;> cases h1
           subst hg0
           have hm : x.loc.isMemory = true:=by obtain ⟨a,ha,_⟩:=hS; rw [ha]; rfl
           rcases hp.known i x hx hm with h1 | ⟨_,h2,_⟩ | ⟨h1,_⟩
           . exact h1
           . exact h2.elim
           . exact absurd h1 (still_shun hE _ hS)
         . rcases hg' with h1 | h1
           . exact absurd h1 hne
           . unfold role0 at h1; split at h1 <;> cases h1
       . rw [counts0,cell_setSt_ne _ (.inr fun h=>hE.sm.2.2.1 h.symm)]
         have:=Cd.cst
         simpa using this
       . rw [counts0]; decide
       . exact cell_setSt_self (E:=swapE E) hE' Cd.csm
 . obtain ⟨gs',w',ops,q',ro',st',sm',a',m',hrt,hsz',h0,hM',C',hlt,kn'⟩:=Cd.by_step (sl:=sl') hE haQ hMQ hi hpos hg
   exact ⟨_,_,2 * sumTo gs'.size q' + m',by rw [hst]; exact hrt,by rw [hsz']; omega,.inr ⟨gs',w',sl',q',ro',st',sm',a',m',rfl,hsz'.trans hsz,h0,hM',C',kn.trans (Kin.ofAt kn'),rfl⟩⟩
theorem To.cas (hE : EnvOk E) {gh gm gY : Goroutine} {vs m : Nat} (hv : 0 < vs) (hns : ∀ x,isSeat (role x) = false) (hrun : g.status = .running)
   (hhit : ∀ w,pz E.Z w = V -> KW P E w -> w.cell? E.st = some (.int .u64 (vs * two32)) -> stepG P true g w = .go gh (w.setCell E.st (.int .u64 (vs * two32 + 1))) #[⟨.cell E.st,false,true⟩,⟨.cell E.st,true,true⟩])
   (hmiss : ∀ w (v : Nat),pz E.Z w = V -> KW P E w -> v ≠ vs -> v < 2147483647 -> w.cell? E.st = some (.int .u64 (v * two32)) -> stepG P true g w = .go gm w #[⟨.cell E.st,false,true⟩])
   (hW : Wy P E gY m gh) (Kh : To P Post E (Las P E 3) 0 dh 0 n role0 V gY) (Km : ∀ roleQ,RoleLe role roleQ -> sumTo n (counts roleQ) ≠ vs -> roleQ 0 = .fin -> To P Post E (Las P E 3) 0 dh 0 n roleQ V gm) : To P Post E (Las P E 3) 0 dh 0 n role V g:=fun T gs w q role' sl hle hsz ha C=>by
 obtain ⟨N,gsQ,wY,d',slQ,slY,TQ,qQ,roleQ,hrn,hst,hszQ,haQ,hleQ,CQ,kn⟩:=C.picked (sl:=sl) hE ha hrun
 have hle':=hle.trans hleQ
 have hnsQ : ∀ x,isSeat (roleQ x) = false:=fun x=>by
   rcases hle' x with h1 | ⟨_,h2⟩
   . rw [h1]; exact hns x
   . rw [h2]; rfl
 have hsz' : gsQ.size = n:=hszQ.trans hsz
 by_cases hc : sumTo gsQ.size (counts roleQ) = vs
 . have hcount : (wY.at d').cell? E.st = some (.int .u64 (vs * two32)):=by have:=CQ.count; rw [Nat.add_zero,hc] at this; exact this
   have hgo:=hhit (wY.at d') CQ.view CQ.keep hcount
   have hrt:=runNT_succ_of hrn (hst.trans (runT_crowd_go (P:=P) (sl:=slY) (i:=0) haQ (show stepG P (0 == 0) g (wY.at d') = _ from hgo)))
   have hlt : 0 < gsQ.size:=(Array.getElem?_eq_some_iff.1 haQ).1
   have hmine : ∀ {fn : FuncId} {pos : String} {es : Array Event},∀ op ∈ MemOp.ofEvents 0 fn pos es,op.g = 0:=fun op hop=>by obtain ⟨e,_,rfl⟩:=Go.Conc.mem_ofEvents hop; rfl
   have hWb : Wb P E (toRo roleQ) dh V (TQ ++ MemOp.ofEvents 0 g.frame.fn g.frame.place #[⟨.cell E.st,false,true⟩,⟨.cell E.st,true,true⟩]) ((gsQ.map (woken P g gh ((wY.at d').setCell E.st (.int .u64 (vs * two32 + 1))))).setIfInBounds 0 gh) ((wY.at d').setCell E.st (.int .u64 (vs * two32 + 1))) qQ (vs * two32 + 1) 0:=by
     refine ⟨fun x y hx hy=>?_,fun c lo hi hz=>?_,fun j hj=>?_,?_,CQ.keep.setSt hE _,(pz_setSt hE CQ.keep.1 _).trans CQ.view,cell_setSt_self hE hcount,by rw [cell_setSt_ne _ (.inr hE.sm.2.2.1)]; exact CQ.sema,?_⟩
     . rw [Array.getElem?_setIfInBounds_ne (by omega),Array.getElem?_map] at hy
       obtain ⟨yQ,hyQ,rfl⟩:=Option.map_eq_some_iff.1 hy
       rw [woken_of_again (CQ.fixed (ChanKept.setCell _ _ _) (by omega) hyQ)]
       have hid:=CQ.idle x yQ (by omega) hyQ
       have hD : Deaf (TQ ++ MemOp.ofEvents 0 g.frame.fn g.frame.place #[⟨.cell E.st,false,true⟩,⟨.cell E.st,true,true⟩]) x = Deaf TQ x:=Deaf_other TQ (fun z=>by omega) _ hmine
       unfold toRo
       cases e : roleQ x with
       | quit=>rw [e] at hid; show QuitsD _ _ _ _; rw [hD]; exact hid.2
       | fin=>rw [e] at hid; show Fin _ _ _ _ _ _; rw [hD]; exact hid.2
       | seat c z r=>have:=hnsQ x; rw [e] at this; cases this
     . obtain ⟨k,hk⟩:=CQ.rest c lo hi hz
       exact ⟨k,chan_setSt _ _ hk⟩
     . simp only [Array.size_setIfInBounds,Array.size_map] at hj
       rw [Deaf_other TQ (g':=0) (by omega) _ hmine]
       exact (CQ.above j hj).1
     . rw [size_setCell]
       have hev:=evM_atomic hE hcount
       have hmine' : ∀ op ∈ MemOp.ofEvents 0 g.frame.fn g.frame.place #[⟨.cell E.st,false,true⟩,⟨.cell E.st,true,true⟩],op.g = 0:=hmine
       have hdb : deafBehind dh (#[⟨.cell E.st,false,true⟩,⟨.cell E.st,true,true⟩] : Array Event) = dh:=deafBehind_still (fun e he=>by
         simp only [List.mem_toArray,List.mem_cons,List.not_mem_nil,or_false] at he
         rcases he with rfl | rfl <;> simp) dh
       have hp:=CQ.past.appH (d':=dh) hmine' (fun op hop b hb=>by
         obtain ⟨e,hm,rfl⟩:=Go.Conc.mem_ofEvents hop
         obtain ⟨h1,h2⟩:=(hev e hm).1 b hb
         exact ⟨fun hs=>absurd h1 (still_shun hE _ hs),fun _=>h2⟩) (by rw [Deaf_own,CQ.past.deafh]; exact hdb) (fun op hop=>by obtain ⟨e,hm,rfl⟩:=Go.Conc.mem_ofEvents hop; exact (hev e hm).2)
       refine ⟨hp.clean,fun i a ha hm=>?_,hp.shun,fun i a ha hw hS=>hS.elim,fun g hg hne=>absurd hg hne,hp.deafh,hp.seen⟩
       rcases hp.known i a ha hm with h1 | ⟨_,_,g,_,_,h4⟩ | h3
       . exact .inl h1
       . rw [hnsQ g] at h4; cases h4
       . exact .inr (.inr h3)
     . simp only [Array.size_setIfInBounds,Array.size_map]
       have:=MB.reg (n:=gsQ.size) (ro:=toRo roleQ) (fun x _ _=>by unfold toRo; cases roleQ x <;> simp) (vs - 1) (by rw [fins_toRo hnsQ]; omega) (by have:=CQ.small; omega)
       rw [show vs - 1 + 1 = vs by omega] at this
       exact this
   obtain ⟨N',gs',w',sl',T',q',hr',hs',ha',C',kn'⟩:=Wb.runs (Lst:=Las P E 3) (gY:=gY) (sl:=slY) hE hWb (Array.getElem?_setIfInBounds_self_of_lt (by simpa using hlt)) (.inl hW)
   exact Ends.of_steps (runNT_then hrt hr') (Ends.kin (((kn.at d').trans (Kin.cell _ _ _)).trans kn') (Kh T' gs' w' q' role0 sl' (RoleLe.refl _) (by rw [hs']; simpa using hsz') ha' C'))
 . have hgo:=hmiss (wY.at d') (sumTo gsQ.size (counts roleQ) + 0) CQ.view CQ.keep (by simpa using hc) CQ.small CQ.count
   have hev : ∀ e ∈ (#[⟨.cell E.st,false,true⟩] : Array Event),EvM E (wY.at d').heap.size e:=fun e he=>evM_atomic hE CQ.count e (by
     simp only [List.mem_toArray,List.mem_cons,List.not_mem_nil,or_false] at he ⊢
     exact .inl he)
   obtain ⟨CY,haY⟩:=CQ.ownX hE (a':=gm) haQ (ChanKept.refl _) rfl CQ.keep CQ.view hev CQ.count CQ.small CQ.sema
   have hd : deafBehind dh (#[⟨.cell E.st,false,true⟩] : Array Event) = dh:=deafBehind_still (fun e he=>by
     simp only [List.mem_toArray,List.mem_cons,List.not_mem_nil,or_false] at he
     subst he; simp) dh
   rw [hd] at CY
   have hr:=runNT_succ_of hrn (hst.trans (runT_crowd_go (P:=P) (sl:=slY) (i:=0) haQ (show stepG P (0 == 0) g (wY.at d') = _ from hgo)))
   exact Ends.of_steps hr (Ends.kin (kn.at d') (Km roleQ hle' (by rw [← hsz']; exact hc) CQ.holder _ _ _ _ roleQ _ (RoleLe.refl _) (by simpa using hsz') haY CY))
end
def begZ (Z : Cuts) (cb : Nat) : Cuts:=fun b=>if b = cb then some (3,1,2) else Z b
def frz (V : World) (cb : Nat) : World:={ V with heap:=V.heap.modify cb fun o=>match o with | .cells c e _=>.cells c e (1,2) | o=>o }
section
variable {P : Program} {Post : Value -> World -> Prop} {Lst : Nat -> Nat -> Goroutine -> Prop} {Z : Cuts} {V : World} {T : Trace} {gs : Array Goroutine} {w : World} {q : Nat -> Nat} {g : Goroutine}
theorem cell_pz {a : Addr} {v : Value} (h : (pz Z w).cell? a = some v) : w.cell? a = some v:=by
 unfold World.cell? at *
 simp only [pz,Array.getElem?_mapIdx] at h
 cases ho : w.heap[a.block]? with
 | none=>rw [ho] at h; simp at h
 | some o =>
   rw [ho] at h
   simp only [Option.map_some] at h
   cases hz : Z a.block with
   | none =>
     rw [hz] at h
     cases o <;> simp [pobj] at h ⊢
     exact h
   | some s =>
     obtain ⟨k,lo,hi⟩:=s
     rw [hz] at h
     cases o with
     | cells c e f =>
       simp only [pobj] at h ⊢
       by_cases hs : a.spot.isSome
       . simp [hs] at h
       . simp only [hs,if_false,Bool.false_eq_true] at h ⊢
         rw [Array.getElem?_extract] at h
         split at h
         . simpa using h
         . cases h
     | _=>simp [pobj] at h
theorem begin_view {cb : Nat} (hz : Z cb = some (3,0,0)) (hc : ∃ c e f,w.heap[cb]? = some (.cells c e f)) (hv : pz Z w = V) : pz (begZ Z cb) w = frz V cb:=by
 subst hv
 unfold frz pz
 simp only
 congr 1
 apply Array.ext_getElem?
 intro b
 rw [Array.getElem?_mapIdx,Array.getElem?_modify,Array.getElem?_mapIdx]
 by_cases e : cb = b
 . subst e
   rw [if_pos rfl]
   obtain ⟨c,e,f,ho⟩:=hc
   rw [ho]
   simp only [Option.map_some,begZ,if_true,hz]
   rfl
 . rw [if_neg e]
   simp only [begZ,if_neg (Ne.symm e)]
theorem To0.begin {cb : Nat} {E : Env} (hz : Z cb = some (3,0,0)) (hEZ : E.Z = begZ Z cb) (hst : E.st = ⟨cb,3,none⟩) (hsm : E.sm = ⟨cb,4,none⟩) (hE : EnvOk E) (hKc : ∀ a v,E.Kc a = some v -> V.cell? a = some v)
   (K : ∀ n,0 < n -> To P Post E Lst 0 0 0 n role0 (frz V cb) g) : To0 P Post Z V g:=fun T gs w q sl ha C=>by
 have hview:=begin_view hz (C.fit.rows cb 2 0 0 hz) C.view
 have hpos : 0 < gs.size:=(Array.getElem?_eq_some_iff.1 ha).1
 have hfit : Fit P E.Z w:=by
   rw [hEZ]
   refine ⟨fun b s hb=>?_,fun b k lo hi hb=>?_,fun b lo hi hb=>?_,C.fit.glob,C.fit.bad⟩
   . unfold begZ at hb
     split at hb
     . rename_i e; subst e; exact C.fit.cut b _ hz
     . exact C.fit.cut b s hb
   . unfold begZ at hb
     split at hb
     . rename_i e; subst e; exact C.fit.rows b 2 0 0 hz
     . exact C.fit.rows b k lo hi hb
   . unfold begZ at hb
     split at hb
     . simp at hb
     . exact C.fit.chans b lo hi hb
 have hsh : ∀ l,E.shun l -> shunZ Z l:=fun l ⟨a,k,lo,hi,e,h1,h2⟩=>by
   rw [hEZ] at h1
   unfold begZ at h1
   split at h1
   . rename_i e'
     obtain ⟨rfl,rfl,rfl⟩ : 3 = k /\ 1 = lo /\ 2 = hi:=by simpa using h1
     exact ⟨a,3,0,0,e,by rw [e']; exact hz,h2⟩
   . exact ⟨a,k,lo,hi,e,h1,h2⟩
 have hhs : ∀ l,shunZ Z l -> E.shun l:=fun l ⟨a,k,lo,hi,e,h1,h2⟩=>by
   by_cases e' : a.block = cb
   . rw [e',hz] at h1
     obtain ⟨rfl,rfl,rfl⟩ : 3 = k /\ 0 = lo /\ 0 = hi:=by simpa using h1
     exact ⟨a,3,1,2,e,by rw [hEZ]; unfold begZ; rw [if_pos e'],h2⟩
   . exact ⟨a,k,lo,hi,e,by rw [hEZ]; unfold begZ; rw [if_neg e']; exact h1,h2⟩
 obtain ⟨c,e,h1,h2,h3⟩:=C.nul cb hz
 have cst : w.cell? E.st = some (.int .u64 0):=by rw [hst]; simp [World.cell?,h1,h2]
 have csm : w.cell? E.sm = some (.int .u32 0):=by rw [hsm]; simp [World.cell?,h1,h3]
 have R:=C.begin (Lst:=Lst) hpos hhs (fun i x hx hS=>C.past.shun i x hx (hsh _ hS)) hE ⟨hfit,fun a v hv=>cell_pz (Z:=Z) (by rw [C.view]; exact hKc a v hv)⟩ (fun c lo hi hc=>by
   rw [hEZ] at hc
   unfold begZ at hc
   split at hc
   . simp at hc
   . exact C.rest c lo hi hc) cst csm
 rw [hEZ,hview] at R
 exact K gs.size hpos T gs w q role0 sl (RoleLe.refl _) rfl ha R
theorem To0.alloc {o : Obj} {s : Nat × Nat × Nat} {g' : Goroutine} (hbo : BornOk o s) (hrun : g.status = .running) (hs : ∀ w,pz Z w = V -> Fit P Z w -> stepG P true g w = .go g' { w with heap:=w.heap.push o } #[])
   (K : To0 P Post (addZ Z V.heap.size s) { V with heap:=V.heap.push (pobj (some s) o) } g') : To0 P Post Z V g:=fun T gs w q sl ha C=>by
 obtain ⟨N,gs',w',sl',T',q',hr,hsz,ha',_,_,C',hv,_,kn⟩:=C.alloc (sl:=sl) hbo ha hrun hs
 rw [hv] at C'
 exact Ends.of_steps hr (Ends.kin kn (K T' gs' w' q' sl' ha' C'))
end
end Go.Proofs.Ytibcdikfbhmheaa
namespace Go.Proofs
abbrev Try.link : Go.Conc.Lib.WgLink:={ add:=140,done:=160,wait:=80,relMerge:=152,disable:=109,enable:=111,inBubble:=117,associate:=153,fatal:=154,uOr:=155,uAdd:=156,raceRead:=157,uLoad:=110,uStore:=158,disassociate:=115,semrelease:=159,acquire:=112,isAssociated:=113,uCas:=114,raceWrite:=116,semacquire:=118,orU64:=174,addU64:=175,loadU64:=142,storeU64:=176,casU64:=143,tWgP:=204,tUP:=208,tAssoc:=243,tWg:=167,tAU:=165,tU64:=163,tUint:=206,tU32:=76,tPU32:=212,tPAU:=235,tPU64:=237,tNoCopy:=75,tANoCopy:=59,tAlign64:=60 }
theorem Try.wgLib : Go.Conc.Lib.WgLib Try.prog Try.link :=
 ⟨Try.func140,Try.func160,Try.func80,Try.func152,Try.func109,Try.func111,Try.func117,Try.func153,Try.func154,Try.func155,Try.func156,Try.func157,Try.func110,Try.func158,Try.func115,Try.func159,Try.func112,Try.func113,Try.func114,Try.func116,Try.func118,Try.func174,Try.func175,Try.func142,Try.func176,Try.func143,Try.underlying204,Try.runUnderlying204,Try.sizeOf204,Try.isAgg204,Try.zeroValue204,Try.underlying208,Try.runUnderlying208,Try.sizeOf208,Try.isAgg208,Try.zeroValue208,Try.underlying243,Try.runUnderlying243,Try.sizeOf243,Try.isAgg243,Try.zeroValue243,Try.underlying167,Try.runUnderlying167,Try.sizeOf167,Try.isAgg167,Try.zeroValue167,Try.underlying165,Try.runUnderlying165,Try.sizeOf165,Try.isAgg165,Try.zeroValue165,Try.underlying163,Try.runUnderlying163,Try.sizeOf163,Try.isAgg163,Try.zeroValue163,Try.underlying206,Try.runUnderlying206,Try.sizeOf206,Try.isAgg206,Try.zeroValue206,Try.underlying76,Try.runUnderlying76,Try.sizeOf76,Try.isAgg76,Try.zeroValue76,Try.underlying212,Try.runUnderlying212,Try.sizeOf212,Try.isAgg212,Try.zeroValue212,Try.underlying235,Try.runUnderlying235,Try.sizeOf235,Try.isAgg235,Try.zeroValue235,Try.underlying237,Try.runUnderlying237,Try.sizeOf237,Try.isAgg237,Try.zeroValue237,Try.underlying0,Try.runUnderlying0,Try.sizeOf0,Try.isAgg0,Try.zeroValue0,Try.underlying3,Try.runUnderlying3,Try.sizeOf3,Try.isAgg3,Try.zeroValue3,Try.underlying4,Try.runUnderlying4,Try.sizeOf4,Try.isAgg4,Try.zeroValue4,Try.underlying9,Try.runUnderlying9,Try.sizeOf9,Try.isAgg9,Try.zeroValue9,Try.underlying20,Try.runUnderlying20,Try.sizeOf20,Try.isAgg20,Try.zeroValue20,Try.underlying21,Try.runUnderlying21,Try.sizeOf21,Try.isAgg21,Try.zeroValue21,(by kernel_rfl),(by kernel_rfl)⟩
end Go.Proofs
namespace Go.Proofs.Ytibcdikfbhmheaa
open Go Go.Conc
section
variable {P : Program} {L : List FuncId} {Z : Cuts} {main : Bool} {Stop : Goroutine -> World -> Prop} {b : Frame} {a : Act} {k : List Item} {cs : List Frame} {V : World}
theorem Will.still {g g' : Goroutine} (hr : g.status = .running) (h : ∀ w,stepG P main g w = .go g' w #[]) (K : Will P main Z Stop g' V) : Will P main Z Stop g V :=
 .step hr (fun w hV hf=>⟨g',w,#[],h w,Hidden.refl w,hf,by simp⟩) fun w g2 w2 es hV hf hst=>by
   rw [h w] at hst
   injection hst with e1 e2 e3
   subst e1 e2
   rw [hV]; exact K
def Upon (P : Program) (main : Bool) (Z : Cuts) (Stop : Goroutine -> World -> Prop) (b : Frame) (a : Act) (ops : Array Oper) (o : Oper) (i : Nat) (rest : List Nat) (k : List Item) (cs : List Frame) : Result Next -> Prop
 | .ok (.value v) W'=>Will P main Z Stop (G (b.at (a.put o.dst v) (.inRegion ops rest :: k)) cs) (norm W')
 | .ok .skip W'=>Will P main Z Stop (G (b.at (a.put o.dst undef) (.inRegion ops rest :: k)) cs) (norm W')
 | .ok (.enter f args) W'=>Will P main Z Stop (G (Frame.enter P f args .normal) (b.at a (.inRegion ops (i :: rest) :: k) :: cs)) (norm W')
 | .halt (.panic v) W'=>Will P main Z Stop (G { b.at a (.inRegion ops (i :: rest) :: k) with mode:=.panicking [{ v,recovered:=false }] } cs) (norm W')
 | _=>False
theorem will_oper (hb : b.kind = .normal) {ops : Array Oper} {i : Nat} {rest : List Nat} {o : Oper} (ho : ops[i]? = some o) (hw : Region.wanted o (yielded ops a.tmps) = true) (hok : opOk P L o.op = true)
   (h : ∀ τ,Upon P main Z Stop b a ops o i rest k cs ((execOp a.eval o).run P (re V τ 0))) : Will P main Z Stop (G (b.at a (.inRegion ops (i :: rest) :: k)) cs) V:=by
 have key : ∀ w,pz Z w = V -> Fit P Z w -> ∃ g' w' es,stepG P main (G (b.at a (.inRegion ops (i :: rest) :: k)) cs) w = .go g' w' es /\ Hidden Z w w' /\ Fit P Z w' /\ (∀ e ∈ es,EvZ Z w'.heap.size e) /\ Will P main Z Stop g' (pz Z w'):=fun w hV hf=>by
   subst hV
   have hu:=h (glue (fun _ _=>0) 0 w)
   have hsim:=sim_execOp (Z:=Z) (o:=o) (ρ:=Act.eval a) (fun _=>rfl) (fun _=>rfl) hok (re (pz Z w) (glue (fun _ _=>0) 0 w) 0) w #[] rfl hf
   have hst : stepG P main (G (b.at a (.inRegion ops (i :: rest) :: k)) cs) w = stepG.apply P true (b.at a (.inRegion ops (i :: rest) :: k)) cs none (execOp a.eval o) w:=stepG_oper ho hw
   rw [hst]
   have evs : ∀ {w' W' : World} {es' : Array Event},Out P Z w (re (pz Z w) (glue (fun _ _=>0) 0 w) 0) W' w' #[] es' -> ∀ e ∈ seen P b.fn es',EvZ Z w'.heap.size e:=fun o e he=>by
     obtain ⟨u,hu,hu'⟩:=o.evs
     have:=mem_seen he
     rw [hu] at this
     exact hu' e (by simpa using this)
   have hkk : (b.at a (.inRegion ops (i :: rest) :: k)).kind = .normal:=hb
   cases hr : (execOp a.eval o).run P (re (pz Z w) (glue (fun _ _=>0) 0 w) 0) with
   | ok nx W' =>
     rw [hr] at hsim hu
     obtain ⟨hnx,hd,ht,hgo⟩:=hsim
     obtain ⟨w',es',e,o'⟩:=hgo glue_ag
     cases nx with
     | value v=>exact ⟨_,w',_,apply_value hkk e,o'.hid,o'.fit,evs o',by rw [Frame.finish_at,ho,← o'.rl]; exact hu⟩
     | skip=>exact ⟨_,w',_,apply_skip hkk e,o'.hid,o'.fit,evs o',by rw [Frame.finish_at,ho,← o'.rl]; exact hu⟩
     | enter f args=>exact ⟨_,w',_,apply_enter hkk rfl e,o'.hid,o'.fit,evs o',by rw [← o'.rl]; exact hu⟩
     | _=>exact hu.elim
   | halt x W' =>
     rw [hr] at hsim hu
     cases x with
     | panic v =>
       obtain ⟨hd,ht,hgo⟩:=hsim
       obtain ⟨w',es',e,o'⟩:=hgo glue_ag
       exact ⟨_,w',_,apply_panic hkk e,o'.hid,o'.fit,evs o',by rw [← o'.rl]; exact hu⟩
     | _=>exact hu.elim
 refine .step rfl (fun w hV hf=>?_) fun w g' w' es hV hf hst=>?_
 . obtain ⟨g',w',es,e,a1,a2,a3,_⟩:=key w hV hf
   exact ⟨g',w',es,e,a1,a2,a3⟩
 . obtain ⟨g2,w2,es2,e,a1,a2,a3,hW⟩:=key w hV hf
   rw [e] at hst
   injection hst with e1 e2 e3
   subst e1 e2
   exact hW
def PureAt (P : Program) (L : List FuncId) (ops : Array Oper) (V : World) (o : Oper) (v : Value) (a : Act) : Prop :=
 (Region.wanted o (yielded ops a.tmps) = true /\ opOk P L o.op = true /\ ∀ τ,(execOp a.eval o).run P (re V τ 0) = .ok (.value v) (re V τ 0)) ∨ (Region.wanted o (yielded ops a.tmps) = false /\ v = undef)
def AnyP (P : Program) (L : List FuncId) (md : Region.Mode) (ops : Array Oper) (V : World) (j : Nat) (X : Nat -> Array Bool -> Act -> Prop) (Q : Act -> Prop) : Nat -> Array Bool -> Act -> Prop
 | 0,listed,a=>Region.ready md ops listed = [] /\ Q a
 | n + 1,listed,a=>(Region.ready md ops listed = [] -> Q a) /\ ∀ i ∈ Region.ready md ops listed,(i = j -> X n (listed.setIfInBounds j true) a) /\ (i ≠ j -> ∃ o v,ops[i]? = some o /\ PureAt P L ops V o v a /\ AnyP P L md ops V j X Q n (listed.setIfInBounds i true) (a.put o.dst v))
def reach (md : Region.Mode) (ops : Array Oper) (i : Nat) : Nat -> Nat -> Bool
 | 0,_=>false
 | n + 1,m=>match ops[m]? with
   | some o=>o.after.any fun e=>Region.binds md e && (e.on == i || reach md ops i n e.on)
   | none=>false
def Cl (md : Region.Mode) (ops : Array Oper) (listed : Array Bool) : Prop:=∀ (m : Nat) (o : Oper),listed.getD m false = true -> ops[m]? = some o -> ∀ e ∈ o.after,Region.binds md e = true -> listed.getD e.on false = true
def clB (md : Region.Mode) (ops : Array Oper) (listed : Array Bool) : Bool:=(List.range ops.size).all fun m=>!listed.getD m false || ((ops[m]?).map fun o=>o.after.all fun e=>!Region.binds md e || listed.getD e.on false).getD true
variable {md : Region.Mode} {ops : Array Oper} {j : Nat} {X : Nat -> Array Bool -> Act -> Prop} {Q : Act -> Prop}
theorem cl_of {listed : Array Bool} (h : clB md ops listed = true) : Cl md ops listed:=fun m o hm ho e he hb=>by
 simp only [clB,List.all_eq_true,List.mem_range] at h
 have h1:=h m (Array.getElem?_eq_some_iff.1 ho).1
 rw [hm,ho] at h1
 simp only [Bool.not_true,Bool.false_or,Option.map_some,Option.getD_some,Array.all_eq_true_iff_forall_mem] at h1
 have h2:=h1 e he
 rw [hb] at h2
 simpa using h2
theorem Cl.set {listed : Array Bool} {m : Nat} (h : Cl md ops listed) (hr : m ∈ Region.ready md ops listed) : Cl md ops (listed.setIfInBounds m true):=fun m' o hm ho e he hb=>by
 by_cases e' : m' = m
 . subst e'
   obtain ⟨_,o',ho',hall⟩:=mem_ready.1 hr
   rw [ho] at ho'
   obtain rfl:=Option.some.inj ho'
   exact getD_set_true (hall e he hb)
 . rw [getD_set_ne false (Ne.symm e')] at hm
   exact getD_set_true (h m' o hm ho e he hb)
theorem reach_off {listed : Array Bool} {i : Nat} (hc : Cl md ops listed) (hi : listed.getD i false = false) : ∀ {n m : Nat},reach md ops i n m = true -> listed.getD m false = false /\ m ∉ Region.ready md ops listed
 | 0,_,h=>by cases h
 | n + 1,m,h=>by
   unfold reach at h
   cases ho : ops[m]? with
   | none=>rw [ho] at h; cases h
   | some o =>
     rw [ho] at h
     obtain ⟨e,he,hb⟩:=Array.any_eq_true'.1 h
     simp only [Bool.and_eq_true,Bool.or_eq_true,beq_iff_eq] at hb
     have hoff : listed.getD e.on false = false:=by
       rcases hb.2 with h1 | h1
       . rw [h1]; exact hi
       . exact (reach_off hc hi h1).1
     refine ⟨?_,fun hr=>?_⟩
     . cases hm : listed.getD m false with
       | false=>rfl
       | true=>have:=hc m o hm ho e he hb.1; rw [hoff] at this; cases this
     . obtain ⟨_,o',ho',hall⟩:=mem_ready.1 hr
       rw [ho] at ho'
       obtain rfl:=Option.some.inj ho'
       have:=hall e he hb.1
       rw [hoff] at this
       cases this
theorem PureAt.of_same {o : Oper} {v : Value} {a a' : Act} (hy : PureAt P L ops V o v a) (he : execOp a'.eval o = execOp a.eval o) (hw : Region.wanted o (yielded ops a'.tmps) = Region.wanted o (yielded ops a.tmps)) : PureAt P L ops V o v a':=by
 unfold PureAt at *
 rw [he,hw]
 exact hy
theorem anyP_first {i : Nat} {oi : Oper} {v : Value} (hi : ops[i]? = some oi) (hsel : ∀ (m : Nat) (o : Oper) cs b,ops[m]? = some o -> o.op ≠ .select cs b) (hij : i ≠ j) {rn : Nat} (hrj : reach md ops i rn j = true) :
   ∀ (n : Nat) (listed : Array Bool) (a : Act),Cl md ops listed ->
     (∀ m om,ops[m]? = some om -> m ≠ i -> m ≠ j -> listed.getD m true = false -> (∀ e ∈ om.after,Region.binds md e = true -> e.on ≠ i) -> oi.apart ops om = true) ->
     i ∈ Region.ready md ops listed -> PureAt P L ops V oi v a -> AnyP P L md ops V j X Q n (listed.setIfInBounds i true) (a.put oi.dst v) -> AnyP P L md ops V j X Q (n + 1) listed a:=by
 have off : ∀ {listed : Array Bool},i ∈ Region.ready md ops listed -> listed.getD i false = false:=fun {listed} hr=>by
   have h0:=(mem_ready.1 hr).1
   rcases Nat.lt_or_ge i listed.size with h' | h'
   . simp [h'] at h0 ⊢; exact h0
   . simp [Array.getElem?_eq_none h'] at h0
 intro n
 induction n with
 | zero =>
   intro listed a hc hfree hr hy H
   refine ⟨fun h=>(by rw [h] at hr; cases hr),fun m hm=>⟨fun e=>?_,fun hmj=>?_⟩⟩
   . subst e; exact absurd hm (reach_off hc (off hr) hrj).2
   . by_cases hmi : m = i
     . subst hmi; exact ⟨oi,v,hi,hy,H⟩
     . have:=ready_mono hm hmi
       rw [H.1] at this
       cases this
 | succ n ih =>
   intro listed a hc hfree hr hy H
   refine ⟨fun h=>(by rw [h] at hr; cases hr),fun m hm=>⟨fun e=>?_,fun hmj=>?_⟩⟩
   . subst e; exact absurd hm (reach_off hc (off hr) hrj).2
   . by_cases hmi : m = i
     . subst hmi; exact ⟨oi,v,hi,hy,H⟩
     . obtain ⟨om,u,hom,hyu,Hm⟩:=(H.2 m (ready_mono hm hmi)).2 hmj
       obtain ⟨hmun,om',hom',hall⟩:=mem_ready.1 hm
       rw [hom] at hom'
       obtain rfl:=Option.some.inj hom'
       have hnot : ∀ e ∈ om.after,Region.binds md e = true -> e.on ≠ i:=fun e he hb heq=>by
         have h1:=hall e he hb
         rw [heq,off hr] at h1
         cases h1
       obtain ⟨h1,h2,h3⟩:=Oper.apart_spec (hfree m om hom hmi hmj hmun hnot)
       have hym : PureAt P L ops V om u a:=hyu.of_same (execOp_put om (fun cs b=>hsel m om cs b hom) a oi.dst v h1).symm (wanted_put om a oi.dst v h1).symm
       have hyi : PureAt P L ops V oi v (a.put om.dst u):=hy.of_same (execOp_put oi (fun cs b=>hsel i oi cs b hi) a om.dst u h3) (wanted_put oi a om.dst u h3)
       refine ⟨om,u,hom,hym,ih (listed.setIfInBounds m true) (a.put om.dst u) (hc.set hm) (fun q oq hq hqi hqj hun hno=>?_) (ready_mono hr (Ne.symm hmi)) hyi ?_⟩
       . refine hfree q oq hq hqi hqj ?_ hno
         by_cases hmq : m = q
         . subst hmq; exact hmun
         . rw [getD_set_ne true hmq] at hun; exact hun
       . rw [Array.setIfInBounds_comm _ _ hmi,← Act.put_comm a v u h2]
         exact Hm
theorem anyP_take {i : Nat} {oi : Oper} {v : Value} {n : Nat} {listed : Array Bool} {a : Act} (rn : Nat) (hi : ops[i]? = some oi) (hs : Region.noSelect ops = true) (hij : (i != j) = true) (hrj : reach md ops i rn j = true) (hc : clB md ops listed = true) (hf : Region.free md ops (listed.setIfInBounds j true) i = true)
   (hr : (Region.ready md ops listed).contains i = true) (hy : PureAt P L ops V oi v a) (h : AnyP P L md ops V j X Q n (listed.setIfInBounds i true) (a.put oi.dst v)) : AnyP P L md ops V j X Q (n + 1) listed a :=
 anyP_first hi (Region.noSelect_spec hs) (by simpa using hij) hrj n listed a (cl_of hc) (fun m om hm hmi hmj hun hno=>Region.free_spec hi hf m om hm hmi (by rw [getD_set_ne true (Ne.symm hmj)]; exact hun) hno) (by simpa using hr) hy h
theorem anyP_last {n : Nat} {listed : Array Bool} {a : Act} (hr : Region.ready md ops listed = [j]) (h : X n (listed.setIfInBounds j true) a) : AnyP P L md ops V j X Q (n + 1) listed a :=
 ⟨fun e=>(by rw [hr] at e; cases e),fun i hi=>by
   rw [hr] at hi
   obtain rfl:=List.mem_singleton.1 hi
   exact ⟨fun _=>h,fun e=>absurd rfl e⟩⟩
end
def Mu (P : Program) (R : World -> Prop) (K : Goroutine -> Prop) : Prop:=∀ g g' : Goroutine,g.status = .running -> (∀ main w,R w -> stepG P main g w = .go g' w #[]) -> K g' -> K g
section
variable {P : Program} {R : World -> Prop} {K : Goroutine -> Prop} {b : Frame} {a : Act} {k : List Item} {cs : List Frame}
theorem mu_step (hK : Mu P R K) {g g' : Goroutine} (hr : g.status = .running) (hs : ∀ main w,stepG P main g w = .go g' w #[]) (h : K g') : K g:=hK g g' hr (fun main w _=>hs main w) h
theorem mu_seq (hK : Mu P R K) {x y : Code} (h : K (G (b.at a (.code x :: .code y :: k)) cs)) : K (G (b.at a (.code (.seq x y) :: k)) cs):=mu_step hK rfl (fun main w=>stepG_seq) h
theorem mu_skip (hK : Mu P R K) (h : K (G (b.at a k) cs)) : K (G (b.at a (.code .skip :: k)) cs):=mu_step hK rfl (fun main w=>stepG_skip) h
theorem mu_region_end (hK : Mu P R K) {ops : Array Oper} (h : K (G (b.at a k) cs)) : K (G (b.at a (.inRegion ops [] :: k)) cs):=mu_step hK rfl (fun main w=>stepG_region_end) h
theorem mu_block (hK : Mu P R K) {id : Nat} {c : Code} (h : K (G (b.at a (.code c :: .inBlock id :: k)) cs)) : K (G (b.at a (.code (.block id c) :: k)) cs):=mu_step hK rfl (fun main w=>stepG_block) h
theorem mu_loop (hK : Mu P R K) {c : Code} (h : K (G (b.at a (.code c :: .inLoop c :: k)) cs)) : K (G (b.at a (.code (.loop c) :: k)) cs):=mu_step hK rfl (fun main w=>stepG_loop) h
theorem mu_inBlock (hK : Mu P R K) {id : Nat} (h : K (G (b.at a k) cs)) : K (G (b.at a (.inBlock id :: k)) cs):=mu_step hK rfl (fun main w=>stepG_inBlock) h
theorem mu_inLoop (hK : Mu P R K) {c : Code} (h : K (G (b.at a (.code c :: .inLoop c :: k)) cs)) : K (G (b.at a (.inLoop c :: k)) cs):=mu_step hK rfl (fun main w=>stepG_inLoop) h
theorem mu_ret (hK : Mu P R K) (h : K (G { b.at a (.code .ret :: k) with mode:=.returning } cs)) : K (G (b.at a (.code .ret :: k)) cs):=mu_step hK rfl (fun main w=>stepG_ret') h
theorem mu_end (hK : Mu P R K) (h : K (G { b.at a [] with mode:=.returning } cs)) : K (G (b.at a []) cs):=mu_step hK rfl (fun main w=>stepG_end) h
theorem mu_exit (hK : Mu P R K) {id : Nat} {k' : List Item} (he : exitTo id k = some k') (h : K (G (b.at a k') cs)) : K (G (b.at a (.code (.exit id) :: k)) cs):=mu_step hK rfl (fun main w=>stepG_exit he) h
theorem mu_region (hK : Mu P R K) {id : Nat} {ops : Array Oper} (h : K (G (b.at a (.inRegion ops (List.range ops.size) :: k)) cs)) : K (G (b.at a (.code (.region id ops false) :: k)) cs):=mu_step hK rfl (fun main w=>stepG_region) h
theorem mu_regionH (hK : Mu P R K) {id : Nat} {ops : Array Oper} (h : ∀ kk,kk = k -> K (G (b.at a (.inRegion ops (List.range ops.size) :: kk)) cs)) : K (G (b.at a (.code (.region id ops false) :: k)) cs):=mu_region hK (h k rfl)
theorem mu_cond (hK : Mu P R K) {c : Operand} {x y : Code} (t : Bool) (hc : a.eval c = .bool t) (h : K (G (b.at a (.code (if t then x else y) :: k)) cs)) : K (G (b.at a (.code (.cond c x y) :: k)) cs):=mu_step hK rfl (fun main w=>stepG_cond hc) h
theorem mu_cf (hK : Mu P R K) {c : Operand} {x y : Code} (hc : a.eval c = .bool false) (h : K (G (b.at a (.code y :: k)) cs)) : K (G (b.at a (.code (.cond c x y) :: k)) cs):=mu_cond hK false hc h
theorem mu_ct (hK : Mu P R K) {c : Operand} {x y : Code} (hc : a.eval c = .bool true) (h : K (G (b.at a (.code x :: k)) cs)) : K (G (b.at a (.code (.cond c x y) :: k)) cs):=mu_cond hK true hc h
theorem kK {P : Program} {R : World -> Prop} {J : Goroutine -> Prop} (x : Mu P R J) : ∃ K,Mu P R K /\ (∀ g,K g -> J g) /\ (∀ g,J g -> K g):=⟨J,x,fun _ h=>h,fun _ h=>h⟩
theorem listed_no {w : World} {o : Oper} (he : (execOp a.eval o).events P w #[] = #[]) : listed P b.fn a o w = #[]:=by unfold listed; rw [he]; exact seen_none P _
theorem mu_val (hK : Mu P R K) {ops : Array Oper} {i : Nat} {rest : List Nat} {o : Oper} (ho : ops[i]? = some o) (hw : Region.wanted o (yielded ops a.tmps) = true) (hk : b.kind ≠ .early)
   (h : ∀ J : (World -> Result Next) -> Prop,(∀ v,K (G (b.at (a.put o.dst v) (.inRegion ops rest :: k)) cs) -> J (fun w=>.ok (.value v) w)) -> J (fun w=>(execOp a.eval o).run P w)) (he : ∀ w,(execOp a.eval o).events P w #[] = #[]) :
   K (G (b.at a (.inRegion ops (i :: rest) :: k)) cs) :=
 h (fun f=>(∀ w,(execOp a.eval o).run P w = f w) -> K (G (b.at a (.inRegion ops (i :: rest) :: k)) cs)) (fun v hv hrun=>mu_step hK rfl (fun main w=>by rw [stepG_value ho hw hk (hrun w),listed_no (he w)]) hv) (fun _=>rfl)
def isCall : Op -> Bool
 | .call _=>true
 | .defer _=>true
 | _=>false
theorem mu_valn (hK : Mu P R K) {ops : Array Oper} {i : Nat} {rest : List Nat} {o : Oper} (ho : ops[i]? = some o) (hnc : isCall o.op = false) (hw : Region.wanted o (yielded ops a.tmps) = true) (hk : b.kind ≠ .early)
   (h : ∀ J : (World -> Result Next) -> Prop,(∀ v,K (G (b.at (a.put o.dst v) (.inRegion ops rest :: k)) cs) -> J (fun w=>.ok (.value v) w)) -> J (fun w=>(execOp a.eval o).run P w)) (he : ∀ w,(execOp a.eval o).events P w #[] = #[]) :
   K (G (b.at a (.inRegion ops (i :: rest) :: k)) cs):=mu_val hK ho hw hk h he
theorem base_ne (f : FuncId) : (base f).kind ≠ .early:=by intro h; cases h
theorem mu_valB (hK : Mu P R K) {f : FuncId} {ops : Array Oper} {i : Nat} {rest : List Nat} {o : Oper} (ho : ops[i]? = some o) (hnc : isCall o.op = false) (hw : Region.wanted o (yielded ops a.tmps) = true)
   (h : ∀ J : (World -> Result Next) -> Prop,(∀ v,K (G ((base f).at (a.put o.dst v) (.inRegion ops rest :: k)) cs) -> J (fun w=>.ok (.value v) w)) -> J (fun w=>(execOp a.eval o).run P w)) (he : ∀ w,(execOp a.eval o).events P w #[] = #[]) :
   K (G ((base f).at a (.inRegion ops (i :: rest) :: k)) cs):=mu_val hK ho hw (base_ne f) h he
theorem mu_unwanted (hK : Mu P R K) {ops : Array Oper} {i : Nat} {rest : List Nat} {o : Oper} (ho : ops[i]? = some o) (hw : Region.wanted o (yielded ops a.tmps) = false) (h : K (G (b.at (a.put o.dst undef) (.inRegion ops rest :: k)) cs)) :
   K (G (b.at a (.inRegion ops (i :: rest) :: k)) cs):=mu_step hK rfl (fun main w=>by rw [stepG_unwanted ho hw]) h
theorem mu_call (hK : Mu P R K) {ops : Array Oper} {i : Nat} {rest : List Nat} {o : Oper} {f : FuncId} {fn : Func} {c : Code} {args : Array Operand} {ats : Array TypeId}
   (ho : ops[i]? = some o) (hw : Region.wanted o (yielded ops a.tmps) = true) (hk : b.kind ≠ .early) (hop : o.op = .call { callee:=.value (.func f),args,argTypes:=ats })
   (hf : P.funcs[f]? = some fn) (hname : (fn.name == "runtime.NumGoroutine") = false) (hb : fn.body = some c)
   (h : K (G ((base f).at { tmps:=args.map a.eval ++ Array.replicate (fn.ntmps - (args.map a.eval).size) undef,defers:=[] } [.code c]) (b.at a (.inRegion ops (i :: rest) :: k) :: cs))) :
   K (G (b.at a (.inRegion ops (i :: rest) :: k)) cs):=mu_step hK rfl (fun main w=>by
 have hb' : fn.body.isNone = false:=by rw [hb]; rfl
 rw [stepG_enter ho hw hk (run_call_body hop hf hname hb'),enter_at _ hf hb]
 have : listed P b.fn a o w = #[]:=by unfold listed; rw [events_call_body hop hf hname hb']; exact seen_none P _
 rw [this]) h
theorem Mu.sq (hK : Mu P R K) {x y : Code} (h : K (G (b.at a (.code x :: .code y :: k)) cs)) : K (G (b.at a (.code (.seq x y) :: k)) cs):=mu_seq hK h
theorem Mu.sk (hK : Mu P R K) (h : K (G (b.at a k) cs)) : K (G (b.at a (.code .skip :: k)) cs):=mu_skip hK h
theorem Mu.re (hK : Mu P R K) {ops : Array Oper} (h : K (G (b.at a k) cs)) : K (G (b.at a (.inRegion ops [] :: k)) cs):=mu_region_end hK h
theorem Mu.bl (hK : Mu P R K) {id : Nat} {c : Code} (h : K (G (b.at a (.code c :: .inBlock id :: k)) cs)) : K (G (b.at a (.code (.block id c) :: k)) cs):=mu_block hK h
theorem Mu.ib (hK : Mu P R K) {id : Nat} (h : K (G (b.at a k) cs)) : K (G (b.at a (.inBlock id :: k)) cs):=mu_inBlock hK h
theorem Mu.rt (hK : Mu P R K) (h : K (G { b.at a (.code .ret :: k) with mode:=.returning } cs)) : K (G (b.at a (.code .ret :: k)) cs):=mu_ret hK h
theorem Mu.nd (hK : Mu P R K) (h : K (G { b.at a [] with mode:=.returning } cs)) : K (G (b.at a []) cs):=mu_end hK h
theorem Mu.ex (hK : Mu P R K) {id : Nat} {k' : List Item} (he : exitTo id k = some k') (h : K (G (b.at a k') cs)) : K (G (b.at a (.code (.exit id) :: k)) cs):=mu_exit hK he h
def ix : Nat -> List Oper -> List Nat
 | _,[]=>[]
 | n,_ :: l=>n :: ix (n + 1) l
theorem ix_eq : ∀ (l : List Oper) (n : Nat),ix n l = List.range' n l.length
 | [],_=>rfl
 | _ :: l,n=>by rw [ix,ix_eq l (n + 1)]; rfl
theorem Mu.rg (hK : Mu P R K) {id : Nat} {l : List Oper} (h : ∀ kk,kk = k -> K (G (b.at a (.inRegion ⟨l⟩ (ix 0 l) :: kk)) cs)) : K (G (b.at a (.code (.region id ⟨l⟩ false) :: k)) cs):=mu_region hK (by rw [show List.range (Array.mk l).size = ix 0 l by rw [ix_eq,List.range_eq_range']; rfl]; exact h k rfl)
theorem Mu.cf (hK : Mu P R K) {c : Operand} {x y : Code} (h : K (G (b.at a (.code y :: k)) cs)) (hc : a.eval c = .bool false:=by first | (walk_nrm; done) | (simp [Act.eval]; done) | fail) : K (G (b.at a (.code (.cond c x y) :: k)) cs):=mu_cond hK false hc h
theorem Mu.ct (hK : Mu P R K) {c : Operand} {x y : Code} (h : K (G (b.at a (.code x :: k)) cs)) (hc : a.eval c = .bool true:=by first | (walk_nrm; done) | (simp [Act.eval]; done) | fail) : K (G (b.at a (.code (.cond c x y) :: k)) cs):=mu_cond hK true hc h
theorem Mu.uw (hK : Mu P R K) {ops : Array Oper} {i : Nat} {rest : List Nat} {o : Oper} (ho : ops[i]? = some o) (hw : Region.wanted o (yielded ops a.tmps) = false) (h : K (G (b.at (a.put o.dst undef) (.inRegion ops rest :: k)) cs)) : K (G (b.at a (.inRegion ops (i :: rest) :: k)) cs):=mu_unwanted hK ho hw h
theorem Mu.cl {P : Program} {R : World -> Prop} {K : Goroutine -> Prop} {b : Frame} {a : Act} {k : List Item} {cs : List Frame} (hK : Mu P R K) {ops : Array Oper} {i : Nat} {rest : List Nat} {o : Oper} {f : FuncId} {fn : Func} {c : Code} {args : Array Operand} {ats : Array TypeId}
   (ho : ops[i]? = some o) (hw : Region.wanted o (yielded ops a.tmps) = true) (hop : o.op = .call { callee:=.value (.func f),args,argTypes:=ats })
   (hf : P.funcs[f]? = some fn) (hb : fn.body = some c)
   (h : K (G (Frame.enter P f (args.map a.eval) .normal) (b.at a (.inRegion ops (i :: rest) :: k) :: cs))) (hk : b.kind ≠ .early := by decide) (hname : (fn.name == "runtime.NumGoroutine") = false := by kernel_rfl) :
   K (G (b.at a (.inRegion ops (i :: rest) :: k)) cs):=mu_call hK ho hw hk hop hf hname hb (by rw [← enter_at _ hf hb]; exact h)
theorem mu_callB (hK : Mu P R K) {f' : FuncId} {ops : Array Oper} {i : Nat} {rest : List Nat} {o : Oper} {f : FuncId} {fn : Func} {c : Code} {args : Array Operand} {ats : Array TypeId}
   (ho : ops[i]? = some o) (hw : Region.wanted o (yielded ops a.tmps) = true) (hop : o.op = .call { callee:=.value (.func f),args,argTypes:=ats })
   (hf : P.funcs[f]? = some fn) (hname : (fn.name == "runtime.NumGoroutine") = false) (hb : fn.body = some c)
   (h : K (G ((base f).at { tmps:=args.map a.eval ++ Array.replicate (fn.ntmps - (args.map a.eval).size) undef,defers:=[] } [.code c]) ((base f').at a (.inRegion ops (i :: rest) :: k) :: cs))) :
   K (G ((base f').at a (.inRegion ops (i :: rest) :: k)) cs):=mu_call hK ho hw (base_ne f') hop hf hname hb h
theorem mu_deferB (hK : Mu P R K) {f' : FuncId} {ops : Array Oper} {i : Nat} {rest : List Nat} {o : Oper} {f : FuncId} {xs : Array Operand} {ats : Array TypeId} (ho : ops[i]? = some o) (hw : Region.wanted o (yielded ops a.tmps) = true)
   (hop : o.op = .defer { callee:=.value (.func f),args:=xs,argTypes:=ats }) (h : K (G ((base f').at (Act.put ⟨a.tmps,dcall f (xs.map a.eval) :: a.defers⟩ o.dst undef) (.inRegion ops rest :: k)) cs)) : K (G ((base f').at a (.inRegion ops (i :: rest) :: k)) cs) :=
 mu_step hK rfl (fun main w=>stepG_defer ho hw (base_ne f') hop) h
theorem mu_entryB (hK : Mu P R K) {f' : FuncId} {ops : Array Oper} {i : Nat} {rest : List Nat} {o : Oper} {f : FuncId} {fn : Func} {xs : Array Operand} {ats : Array TypeId} (v : Value) (ho : ops[i]? = some o) (hw : Region.wanted o (yielded ops a.tmps) = true) (hop : o.op = .call { callee:=.value (.func f),args:=xs,argTypes:=ats })
   (hf : P.funcs[f]? = some fn) (hname : (fn.name == "runtime.NumGoroutine") = false) (hb : fn.body.isNone = true) (hn : Extern.findNext fn = none) (he : Extern.find fn = some (fun _ => pure v)) (h : K (G ((base f').at (a.put o.dst v) (.inRegion ops rest :: k)) cs)) : K (G ((base f').at a (.inRegion ops (i :: rest) :: k)) cs) :=
 mu_step hK rfl (fun main w=>stepG_entry_pure v ho hw (base_ne f') hop hf hname hb hn he) h
theorem mu_leave0 (hK : Mu P R K) {bQ : Frame} {aQ : Act} {ops : Array Oper} {i : Nat} {rest : List Nat} {fn : Func} {todo : List Item} (hn : b.kind = .normal) (hd : a.defers = []) (hf : P.funcs[b.fn]? = some fn) (hr : fn.results = #[])
   (h : K (G (bQ.at (aQ.put ((ops[i]?).bind (·.dst)) (.tuple #[])) (.inRegion ops rest :: k)) cs)) : K (G { b.at a todo with mode:=.returning } (bQ.at aQ (.inRegion ops (i :: rest) :: k) :: cs)) :=
 mu_step hK rfl (fun main w=>by rw [stepG_leave hn hd hf (results_none hr _ P w) (events_results_none hr _ _),Frame.finish_at]) h
theorem mu_leave1 (hK : Mu P R K) {bQ : Frame} {aQ : Act} {ops : Array Oper} {i : Nat} {rest : List Nat} {fn : Func} {todo : List Item} {t : Tmp} (hn : b.kind = .normal) (hd : a.defers = []) (hf : P.funcs[b.fn]? = some fn) (hr : fn.results = #[.tmp t])
   (h : K (G (bQ.at (aQ.put ((ops[i]?).bind (·.dst)) (a.tmps.getD t undef)) (.inRegion ops rest :: k)) cs)) : K (G { b.at a todo with mode:=.returning } (bQ.at aQ (.inRegion ops (i :: rest) :: k) :: cs)) :=
 mu_step hK rfl (fun main w=>by rw [stepG_leave hn hd hf (results_tmp hr _ P w) (events_results_tmp hr _ _),Frame.finish_at]) h
theorem mu_leaveD (hK : Mu P R K) {c : Frame} {fn : Func} {todo : List Item} (hn : b.kind = .deferred) (hd : a.defers = []) (hf : P.funcs[b.fn]? = some fn) (hr : fn.results = #[]) (hc : c.mode = .returning)
   (h : K (G c cs)) : K (G { b.at a todo with mode:=.returning } (c :: cs)) :=
 mu_step hK rfl (fun main w=>stepG_leave_deferred hn hd hf (results_none hr _ P w) (events_results_none hr _ _) hc) h
theorem mu_valR (hK : Mu P R K) {ops : Array Oper} {i : Nat} {rest : List Nat} {o : Oper} {v : Value} (ho : ops[i]? = some o) (hw : Region.wanted o (yielded ops a.tmps) = true) (hk : b.kind ≠ .early)
   (hr : ∀ w,R w -> (execOp a.eval o).run P w = .ok (.value v) w /\ (execOp a.eval o).events P w #[] = #[]) (h : K (G (b.at (a.put o.dst v) (.inRegion ops rest :: k)) cs)) : K (G (b.at a (.inRegion ops (i :: rest) :: k)) cs) :=
 hK _ _ rfl (fun main w hR=>by rw [stepG_value ho hw hk (hr w hR).1,listed_no (hr w hR).2]) h
theorem quits_mono {n m d : Nat} {g : Goroutine} (h : QuitsD P n d g) (hm : n <= m) : QuitsD P m d g:=by
 induction m generalizing n d g with
 | zero => obtain rfl : n = 0 := by omega
           exact h
 | succ m ih =>
   cases n with
   | zero=>exact .inl h
   | succ n=>exact h.imp id fun ⟨h1,g',es,h2,h3,h4⟩=>⟨h1,g',es,h2,h3,ih h4 (by omega)⟩
theorem bound_ex {A : Nat -> Nat -> Prop} (hm : ∀ v n m,A v n -> n <= m -> A v m) : ∀ B,(∀ v,v < B -> ∃ n,A v n) -> ∃ N,∀ v,v < B -> A v N
 | 0,_=>⟨0,fun v hv=>by omega⟩
 | B + 1,h=>by
   obtain ⟨N,hN⟩:=bound_ex hm B fun v hv=>h v (by omega)
   obtain ⟨n,hn⟩:=h B (by omega)
   refine ⟨N + n,fun v hv=>?_⟩
   by_cases e : v = B
   . subst e; exact hm _ _ _ hn (by omega)
   . exact hm _ _ _ (hN v (by omega)) (by omega)
theorem thaw_hidden {E : Env} {w : World} (hK : KW P E w) {ad : Addr} {k lo hi : Nat} (hz : E.Z ad.block = some (k + 1,lo,hi)) : w.frozen? ad = false:=by
 obtain ⟨_,o,ho,hh⟩:=hK.1.cut _ _ hz
 rcases hh with ⟨c,e,rfl⟩ | ⟨c1,c2,c3,c4,c5,c6,rfl⟩ <;> simp [World.frozen?,ho]
theorem thaw_st {E : Env} (hE : EnvOk E) {w : World} (hK : KW P E w) : w.frozen? E.st = false:=let ⟨_,_,_,_,hz,_⟩:=hE.st; thaw_hidden hK hz
theorem thaw_sm {E : Env} (hE : EnvOk E) {w : World} (hK : KW P E w) : w.frozen? E.sm = false:=thaw_st (swapOk hE) (E:=swapE E) hK
theorem fin_rel {E : Env} {Lst : Nat -> Nat -> Goroutine -> Prop} {g g' : Goroutine} (hr : g.status = .running) (hs : ∀ w,SW P E w -> stepG P false g w = .go g' w #[⟨.mark (.releaseMerge E.st),false,true⟩]) (h : ∃ n,Fin P E Lst n 0 g') : ∃ n,Fin P E Lst n 0 g:=let ⟨n,h⟩:=h; ⟨n + 1,.rel hr hs h⟩
theorem fin_dis {E : Env} {Lst : Nat -> Nat -> Goroutine -> Prop} {d : Nat} {g g' : Goroutine} (hr : g.status = .running) (hs : ∀ w,SW P E w -> stepG P false g w = .go g' w #[⟨.mark .disable,false,true⟩]) (h : ∃ n,Fin P E Lst n (d + 1) g') : ∃ n,Fin P E Lst n d g:=let ⟨n,h⟩:=h; ⟨n + 1,.dis hr hs h⟩
theorem fin_add {E : Env} {Lst : Nat -> Nat -> Goroutine -> Prop} {d : Nat} {g : Goroutine} {g' : Int -> Goroutine} (hr : g.status = .running)
   (hs : ∀ w (S S' : Int),KW P E w -> w.cell? E.st = some (.int .u64 S) -> IntKind.u64.wrap (S + 18446744069414584320) = S' -> stepG P false g w = .go (g' S') (w.setCell E.st (.int .u64 S')) #[⟨.cell E.st,false,true⟩,⟨.cell E.st,true,true⟩])
   (hq : ∀ v wt : Nat,v < 2147483647 -> wt <= 1 -> ¬ (v = 0 /\ wt = 1) -> ∃ n,QuitsD P n (d + 1) (g' (v * two32 + wt))) (hl : ∃ m,Lst m (d + 1) (g' 1)) : ∃ n,Fin P E Lst n (d + 1) g:=by
 obtain ⟨m,hm⟩:=hl
 obtain ⟨NQ,h₀⟩:=bound_ex (A:=fun v n=>¬ (v = 0 /\ (0 : Nat) = 1) -> QuitsD P n (d + 1) (g' (v * two32 + (0 : Nat)))) (fun v n m h hle hx=>quits_mono (h hx) hle) 2147483647 fun v hv=>(by
   obtain ⟨n,hn⟩:=hq v 0 hv (by omega) (by omega)
   exact ⟨n,fun _=>hn⟩)
 obtain ⟨NY,h₁⟩:=bound_ex (A:=fun v n=>¬ (v = 0 /\ (1 : Nat) = 1) -> QuitsD P n (d + 1) (g' (v * two32 + (1 : Nat)))) (fun v n m h hle hx=>quits_mono (h hx) hle) 2147483647 fun v hv=>(by
   by_cases e : v = 0
   . exact ⟨0,fun h=>absurd ⟨e,rfl⟩ h⟩
   . obtain ⟨n,hn⟩:=hq v 1 hv (by omega) (by omega)
     exact ⟨n,fun _=>hn⟩)
 refine ⟨_,.add (n:=NQ + NY) (m:=m) hr fun w v wt hK hwt hv hc=>⟨g' (v * two32 + wt),hs w _ _ hK hc ?_,fun hn=>?_,fun ⟨e1,e2⟩=>by subst e1 e2; simpa [two32] using hm⟩⟩
 . rw [IntKind.wrap_u64]; simp only [two32]; omega
 . obtain rfl | rfl : wt = 0 ∨ wt = 1:=by omega
   . exact quits_mono (h₀ v hv hn) (by omega)
   . exact quits_mono (h₁ v hv hn) (by omega)
theorem las_load {E : Env} {d : Nat} {g g' : Goroutine} (hr : g.status = .running) (hs : ∀ w,KW P E w -> w.cell? E.st = some (.int .u64 1) -> stepG P false g w = .go g' w #[⟨.cell E.st,false,true⟩]) (h : ∃ n,Las P E 2 n (d + 1) g') : ∃ n,Las P E 3 n (d + 1) g:=let ⟨n,h⟩:=h; ⟨n + 1,.load hr hs h⟩
theorem las_store {E : Env} {d : Nat} {g g' : Goroutine} (hr : g.status = .running) (hs : ∀ w,KW P E w -> w.cell? E.st = some (.int .u64 1) -> stepG P false g w = .go g' (w.setCell E.st (.int .u64 0)) #[⟨.cell E.st,true,true⟩]) (h : ∃ n,Las P E 1 n (d + 1) g') : ∃ n,Las P E 2 n (d + 1) g:=let ⟨n,h⟩:=h; ⟨n + 1,.store hr hs h⟩
theorem las_rel {E : Env} {d : Nat} {g g' : Goroutine} (hr : g.status = .running) (hs : ∀ w,KW P E w -> w.cell? E.sm = some (.int .u32 0) -> stepG P false g w = .go g' (w.setCell E.sm (.int .u32 1)) (semEvents E.sm)) (hwk : mayWake P g = true) (hr' : g'.status = .running) (h : ∃ n,QuitsD P n (d + 1) g') : ∃ n,Las P E 1 n (d + 1) g:=let ⟨n,h⟩:=h; ⟨n + 1,.rel hr hs hwk hr' h⟩
theorem mu_will {main : Bool} {Z : Cuts} {Stop : Goroutine -> World -> Prop} {V : World} : Mu P (fun _=>True) (fun g=>Will P main Z Stop g V):=fun g g' hr hs h=>Will.still hr (fun w=>hs main w trivial) h
theorem mu_to {Post : Value -> World -> Prop} {E : Env} {Lst : Nat -> Nat -> Goroutine -> Prop} {h dh pend n : Nat} {role : Nat -> Role} {V : World} (hE : EnvOk E) : Mu P (SW P E) (fun g=>To P Post E Lst h dh pend n role V g):=fun g g' hr hs h=>To.still hE hr (fun w _ hw=>hs _ w hw) h
theorem mu_fin {E : Env} {Lst : Nat -> Nat -> Goroutine -> Prop} {d : Nat} : Mu P (SW P E) (fun g=>∃ n,Fin P E Lst n d g):=fun g g' hr hs ⟨n,h⟩=>⟨n + 1,.plain hr (fun w hw=>hs _ w hw) h⟩
theorem mu_quits {d : Nat} : Mu P (fun _=>True) (fun g=>∃ n,QuitsD P n d g):=fun g g' hr hs ⟨n,h⟩=>⟨n + 1,QuitsD.ctl hr (fun w=>hs _ w trivial) h⟩
theorem mu_las {E : Env} {s d : Nat} : Mu P (SW P E) (fun g=>∃ n,Las P E s n d g):=fun g g' hr hs ⟨n,h⟩=>⟨n + 1,.plain hr (fun w hw=>hs _ w hw) h⟩
end
end Go.Proofs.Ytibcdikfbhmheaa
