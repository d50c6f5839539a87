import Derived.Test.YtibcdikfbhmheaaB11
import Derived.Test.YtibcdikfbhmheaaB09
import Derived.Test.YtibcdikfbhmheaaB07
set_option linter.unusedSimpArgs false
set_option linter.unusedVariables false
set_option maxRecDepth 100000
set_option maxHeartbeats 4000000
namespace Go.Proofs.Ytibcdikfbhmheaa
open Go Go.Conc Go.Proofs Go.Conc.Lib Go.ConcR.Gen
open Go.ConcN (sumTo upd sumTo_upd upd_ne upd_same)
section
variable {C : Cw} {E : Env} {V : World} {ended : Bool} {st : Nat -> Int} {Post : Value -> World -> Prop} {Lst : Nat -> Nat -> Goroutine -> Prop} {h pend N : Nat} {role : Nat -> Role}
theorem wB120 {A : Prop} {k0 : List Item} {B : List Item -> Prop} (h : ∀ kk,kk = k0 -> B kk) (w : Hd (∀ kk,kk = k0 -> B kk) -> A:=by
 intro h
 repeat (first|(with_reducible first|apply hK.sq|apply hK.sk|(apply hK.re;try rw [hkk])|apply hK.bl|refine mu_loop hK ?_|apply hK.ib|refine mu_inLoop hK ?_|apply hK.rt|apply hK.nd)|refine hK.ex rfl ?_|(with_reducible refine hK.rg fun kk hkk=>?_;simp only [ix,Nat.reduceAdd])|(with_reducible first|refine hK.cf ?_|refine hK.ct ?_)|(refine hK.uw rfl rfl ?_;walk_nrm)|(refine hV.vl rfl rfl fun J hJ=>?_;go_simp;with_reducible refine hJ _ ?_;clear hJ J;walk_nrm))
 first | exact h.h kk hkk | (obtain ⟨k2,e⟩ : ∃ x,x = kk:=⟨_,rfl⟩;rw [← e];exact h.h k2 (e.trans hkk)) | (obtain ⟨kk,hkk⟩ : ∃ kk : List Item,kk = []:=⟨_,rfl⟩;exact h.h kk hkk)) : A:=w ⟨h⟩
theorem wB121 {A : Prop} {k0 : List Item} {B : List Item -> Prop} (h : ∀ kk,kk = k0 -> B kk) (w : Hd (∀ kk,kk = k0 -> B kk) -> A:=by
 intro h
 repeat (first|(with_reducible first|apply hK.sq|apply hK.sk|(apply hK.re;try rw [hkk])|apply hK.bl|refine mu_loop hK ?_|apply hK.ib|refine mu_inLoop hK ?_|apply hK.rt|apply hK.nd)|refine hK.ex rfl ?_|(with_reducible refine hK.rg fun kk hkk=>?_;simp only [ix,Nat.reduceAdd])|(with_reducible first|refine hK.cf ?_|refine hK.ct ?_)|(refine hK.uw rfl rfl ?_;walk_nrm)|(refine mu_valn hK rfl rfl rfl (by decide) (fun J hJ=>?_) (fun w=>by first|(simp [go_sem, *];done)|(simp [go_sem,Instr.makeInterface, *];done));go_simp;with_reducible refine hJ _ ?_;clear hJ J;walk_nrm))
 first | exact h.h kk hkk | (obtain ⟨k2,e⟩ : ∃ x,x = kk:=⟨_,rfl⟩;rw [← e];exact h.h k2 (e.trans hkk)) | (obtain ⟨kk,hkk⟩ : ∃ kk : List Item,kk = []:=⟨_,rfl⟩;exact h.h kk hkk)) : A:=w ⟨h⟩
theorem step_fresh (hO : CwOk E C) (hn : norm V = V) (H : CwAt C ended st V) {i : Nat} (hi : i < C.n) (hs : st i = 0) (hc : sumTo N (counts role) + pend + 1 < 2147483647) (hfree : ∀ x z r,role x ≠ .seat C.bk z r) {bQ : Frame} {aQ : Act} {opsQ : Array Oper} {iQ : Nat} {restQ : List Nat} {kQ : List Item} {cs : List Frame}
   (K0 : ∀ r,ResumeM (.bool true) (bQ.at aQ (.inRegion opsQ (iQ :: restQ) :: kQ) :: cs) r -> To Try.prog Post E Lst N 0 pend (N + 1) (upd (upd role 0 (.seat C.bk (.int .i64 0) r)) N .fin) (V.setCell ⟨C.tb i,4,none⟩ (.int .i64 1)) (born Try.prog ⟨.fn (.func 141) #[],#[C.tp i]⟩)) : To Try.prog Post E Lst 0 0 pend N role V (G (Frame.enter Try.prog 108 #[C.tp i] .normal) (bQ.at aQ (.inRegion opsQ (iQ :: restQ) :: kQ) :: cs)):=by
 generalize hss : (0 : Int) = s at hs
 have e5 : ∀ τ,(re V τ 0).cell? ⟨C.tb i,4,none⟩ = some (.int .i64 s):=fun τ=>by rw [re_cell,H.t4 hi,hs]
 have e7 : ∀ τ,(re V τ 0).cell? ⟨C.tb i,3,none⟩ = some (.chan (some (C.ch i))):=fun τ=>H.t3 hi
 have e1 : ∀ τ,(re V τ 0).cell? ⟨C.tb i,1,none⟩ = some (.pointer (some ⟨C.cb,0,none⟩)):=fun τ=>H.t1 hi
 have e6 : ∀ τ,(re V τ 0).frozen? ⟨C.tb i,4,none⟩ = false:=fun τ=>H.f4 hi
 subst hss
 have H':=H.put hO hi 1
 have hn':=norm_set hn ⟨C.tb i,4,none⟩ (.int .i64 1)
 have g1 : ∀ τ,(re (V.setCell ⟨C.tb i,4,none⟩ (.int .i64 1)) τ 0).cell? ⟨C.tb i,1,none⟩ = some (.pointer (some ⟨C.cb,0,none⟩)):=fun τ=>H'.t1 hi
 rw [enter_at (P:=Try.prog) _ Try.func108 rfl]
 simp only [Try.f108,Cw.tp]
 walk_nrm
 obtain ⟨K,hK,hV,hD,key,yek⟩:=kKVD (L:=Lone) (J:=fun g=>To Try.prog Post E Lst 0 0 pend N role V g) (mu_to hO.ok) (muv_to hO.ok hn) (mud_to hO.ok)
 refine key _ ?_
 refine wB120 fun kk hkk=>?_
 refine yek _ ?_
 clear hK hV hD key yek K
 refine mus_put (L:=Lone) (mus_to hO.ok hn') (K:=fun g=>To Try.prog Post E Lst 0 0 pend N role V g) (K':=fun g=>To Try.prog Post E Lst 0 0 pend N role (V.setCell ⟨C.tb i,4,none⟩ (.int .i64 1)) g) rfl (.inl rfl) rfl (by kernel_rfl) (fun τ=>?_) ?_
 . go_simp
   rfl
 obtain ⟨K,hK,hV,hD,key,yek⟩:=kKVD (L:=Lone) (J:=fun g=>To Try.prog Post E Lst 0 0 pend N role (V.setCell ⟨C.tb i,4,none⟩ (.int .i64 1)) g) (mu_to hO.ok) (muv_to hO.ok hn') (mud_to hO.ok)
 refine key _ ?_
 walk_nrm
 refine wB120 fun kk hkk=>?_
 refine mu_call (c:=(addFn Try.link).body.getD .skip) hK rfl rfl (by decide) rfl Try.wgLib.f_add (by kernel_rfl) rfl ?_
 have hnt : (addFn Try.link).ntmps = 117:=rfl
 rw [hnt]
 walk_nrm
 refine yek _ ?_
 clear hK hV hD key yek K
 refine addP Try.wgLib hO.ok hO.st hO.sm hc ?_
 obtain ⟨K,hK,hV,hD,key,yek⟩:=kKVD (L:=Lone) (J:=fun g=>To Try.prog Post E Lst 0 0 (pend + 1) N role (V.setCell ⟨C.tb i,4,none⟩ (.int .i64 1)) g) (mu_to hO.ok) (muv_to hO.ok hn') (mud_to hO.ok)
 refine key _ ?_
 walk_nrm
 refine wB120 fun kk hkk=>?_
 refine yek _ ?_
 clear hK hV hD key yek K
 refine To.goSeat (d:=⟨.fn (.func 141) #[],#[C.tp i]⟩) (f:=.func 141) (caps:=#[]) hO.ok rfl rfl (by decide) (fun w=>by go_simp; try rfl) (fun w=>by simp [go_sem]) rfl hO.bk hfree ?_ K0
 obtain ⟨K,hK,key,yek⟩:=kK (J:=WayQ Try.prog true E C.bk (.int .i64 0) (ResumeM (.bool true) (bQ.at aQ (.inRegion opsQ (iQ :: restQ) :: kQ) :: cs))) mu_wayQ
 refine key _ ?_
 walk_nrm
 refine wB121 fun kk hkk=>?_
 refine yek _ ?_
 refine way_load (ad:=⟨C.tb i,1,none⟩) (v:=.pointer (some ⟨C.cb,0,none⟩)) (hO.k1 i hi) rfl rfl (by decide) (fun w hw=>⟨?_,?_⟩) ?_
 . go_simp
 . (simp [listed,go_sem,seen,hw,Try.func108,Try.f108,base,baseD]; try rfl)
 refine key _ ?_
 walk_nrm
 refine wB121 fun kk hkk=>?_
 refine yek _ ?_
 refine way_load (ad:=⟨C.cb,1,none⟩) (v:=.chan (some C.bk)) hO.kb rfl rfl (by decide) (fun w hw=>⟨?_,?_⟩) ?_
 . go_simp
 . (simp [listed,go_sem,seen,hw,Try.func108,Try.f108,base,baseD]; try rfl)
 refine key _ ?_
 walk_nrm
 refine wB121 fun kk hkk=>?_
 refine yek _ ?_
 clear hK key yek K
 refine wayQ_recv rfl rfl (by decide) (fun w=>by go_simp; try rfl) (fun w=>by simp [go_sem]) ?_
 intro K R hK v bY aY opsY iY restY kY csQ e hT
 injection e with e1 e2
 rw [served_at]
 walk_nrm
 rw [e1,e2]
 refine wB121 fun kk hkk=>?_
 refine mu_leave1 hK rfl rfl Try.func108 rfl ?_
 walk_nrm
 exact hT
theorem end_go (hO : CwOk E C) (hn : norm V = V) (H : CwAt C ended st V) {i : Nat} (hi : i < C.n) (hs : st i = 1 ∨ st i = 2) {j : Nat} {zj : Value} {rj : Goroutine} (hj0 : j ≠ 0) (hjN : j < N) (hj : role j = .seat (C.ch i) zj rj) (hfree : ∀ x z r,role x ≠ .seat C.bk z r) {bQ : Frame} {aQ : Act} {opsQ : Array Oper} {iQ : Nat} {restQ : List Nat} {kQ : List Item} {cs : List Frame}
   (K0 : ∀ r,ResumeM (.tuple #[]) (bQ.at aQ (.inRegion opsQ (iQ :: restQ) :: kQ) :: cs) r -> To Try.prog Post E Lst j 0 pend N (upd (upd role 0 (.seat C.bk (.int .i64 0) r)) j .fin) V (Go.Conc.served rj (recvd false (.bool false) true))) : To Try.prog Post E Lst 0 0 pend N role V (G (Frame.enter Try.prog 79 #[C.tp i] .normal) (bQ.at aQ (.inRegion opsQ (iQ :: restQ) :: kQ) :: cs)):=by
 obtain ⟨s,hs',hs⟩ : ∃ s,(s = 1 ∨ s = 2) /\ st i = s:=⟨_,hs,rfl⟩
 have e5 : ∀ τ,(re V τ 0).cell? ⟨C.tb i,4,none⟩ = some (.int .i64 s):=fun τ=>by rw [re_cell,H.t4 hi,hs]
 have e7 : ∀ τ,(re V τ 0).cell? ⟨C.tb i,3,none⟩ = some (.chan (some (C.ch i))):=fun τ=>H.t3 hi
 have e1 : ∀ τ,(re V τ 0).cell? ⟨C.tb i,1,none⟩ = some (.pointer (some ⟨C.cb,0,none⟩)):=fun τ=>H.t1 hi
 have e6 : ∀ τ,(re V τ 0).frozen? ⟨C.tb i,4,none⟩ = false:=fun τ=>H.f4 hi
 rw [enter_at (P:=Try.prog) _ Try.func79 rfl]
 simp only [Try.f79,Cw.tp]
 walk_nrm
 rcases hs' with rfl | rfl
 . skip
   obtain ⟨K,hK,hV,hD,key,yek⟩:=kKVD (L:=Lone) (J:=fun g=>To Try.prog Post E Lst 0 0 pend N role V g) (mu_to hO.ok) (muv_to hO.ok hn) (mud_to hO.ok)
   refine key _ ?_
   refine wB120 fun kk hkk=>?_
   refine yek _ ?_
   clear hK hV hD key yek K
   refine To.giveSeat hO.ok (v:=.bool false) hj0 hjN hj rfl rfl (by decide) rfl rfl rfl hO.bk hfree ?_ K0
   obtain ⟨K,hK,key,yek⟩:=kK (J:=WayQ Try.prog true E C.bk (.int .i64 0) (ResumeM (.tuple #[]) (bQ.at aQ (.inRegion opsQ (iQ :: restQ) :: kQ) :: cs))) mu_wayQ
   refine key _ ?_
   walk_nrm
   refine wB121 fun kk hkk=>?_
   refine yek _ ?_
   refine way_load (ad:=⟨C.tb i,1,none⟩) (v:=.pointer (some ⟨C.cb,0,none⟩)) (hO.k1 i hi) rfl rfl (by decide) (fun w hw=>⟨?_,?_⟩) ?_
   . go_simp
   . (simp [listed,go_sem,seen,hw,Try.func79,Try.f79,base,baseD]; try rfl)
   refine key _ ?_
   walk_nrm
   refine wB121 fun kk hkk=>?_
   refine yek _ ?_
   refine way_load (ad:=⟨C.cb,1,none⟩) (v:=.chan (some C.bk)) hO.kb rfl rfl (by decide) (fun w hw=>⟨?_,?_⟩) ?_
   . go_simp
   . (simp [listed,go_sem,seen,hw,Try.func79,Try.f79,base,baseD]; try rfl)
   refine key _ ?_
   walk_nrm
   refine wB121 fun kk hkk=>?_
   refine yek _ ?_
   clear hK key yek K
   refine wayQ_recv rfl rfl (by decide) (fun w=>by go_simp; try rfl) (fun w=>by simp [go_sem]) ?_
   intro K R hK v bY aY opsY iY restY kY csQ e hT
   injection e with e1 e2
   rw [served_at]
   walk_nrm
   rw [e1,e2]
   refine wB121 fun kk hkk=>?_
   refine mu_leave0 hK rfl rfl Try.func79 rfl ?_
   walk_nrm
   exact hT
 . skip
   obtain ⟨K,hK,hV,hD,key,yek⟩:=kKVD (L:=Lone) (J:=fun g=>To Try.prog Post E Lst 0 0 pend N role V g) (mu_to hO.ok) (muv_to hO.ok hn) (mud_to hO.ok)
   refine key _ ?_
   refine wB120 fun kk hkk=>?_
   refine yek _ ?_
   clear hK hV hD key yek K
   refine To.giveSeat hO.ok (v:=.bool false) hj0 hjN hj rfl rfl (by decide) rfl rfl rfl hO.bk hfree ?_ K0
   obtain ⟨K,hK,key,yek⟩:=kK (J:=WayQ Try.prog true E C.bk (.int .i64 0) (ResumeM (.tuple #[]) (bQ.at aQ (.inRegion opsQ (iQ :: restQ) :: kQ) :: cs))) mu_wayQ
   refine key _ ?_
   walk_nrm
   refine wB121 fun kk hkk=>?_
   refine yek _ ?_
   refine way_load (ad:=⟨C.tb i,1,none⟩) (v:=.pointer (some ⟨C.cb,0,none⟩)) (hO.k1 i hi) rfl rfl (by decide) (fun w hw=>⟨?_,?_⟩) ?_
   . go_simp
   . (simp [listed,go_sem,seen,hw,Try.func79,Try.f79,base,baseD]; try rfl)
   refine key _ ?_
   walk_nrm
   refine wB121 fun kk hkk=>?_
   refine yek _ ?_
   refine way_load (ad:=⟨C.cb,1,none⟩) (v:=.chan (some C.bk)) hO.kb rfl rfl (by decide) (fun w hw=>⟨?_,?_⟩) ?_
   . go_simp
   . (simp [listed,go_sem,seen,hw,Try.func79,Try.f79,base,baseD]; try rfl)
   refine key _ ?_
   walk_nrm
   refine wB121 fun kk hkk=>?_
   refine yek _ ?_
   clear hK key yek K
   refine wayQ_recv rfl rfl (by decide) (fun w=>by go_simp; try rfl) (fun w=>by simp [go_sem]) ?_
   intro K R hK v bY aY opsY iY restY kY csQ e hT
   injection e with e1 e2
   rw [served_at]
   walk_nrm
   rw [e1,e2]
   refine wB121 fun kk hkk=>?_
   refine mu_leave0 hK rfl rfl Try.func79 rfl ?_
   walk_nrm
   exact hT
theorem end_idle (hO : CwOk E C) (hn : norm V = V) (H : CwAt C ended st V) {i : Nat} (hi : i < C.n) (hs : st i = 0 ∨ st i = 3) {bQ : Frame} {aQ : Act} {opsQ : Array Oper} {iQ : Nat} {restQ : List Nat} {kQ : List Item} {cs : List Frame} (K0 : To Try.prog Post E Lst 0 0 pend N role V (G (bQ.at (aQ.put ((opsQ[iQ]?).bind (·.dst)) (.tuple #[])) (.inRegion opsQ restQ :: kQ)) cs)) : To Try.prog Post E Lst 0 0 pend N role V (G (Frame.enter Try.prog 79 #[C.tp i] .normal) (bQ.at aQ (.inRegion opsQ (iQ :: restQ) :: kQ) :: cs)):=by
 obtain ⟨s,hs',hs⟩ : ∃ s,(s = 0 ∨ s = 3) /\ st i = s:=⟨_,hs,rfl⟩
 have e5 : ∀ τ,(re V τ 0).cell? ⟨C.tb i,4,none⟩ = some (.int .i64 s):=fun τ=>by rw [re_cell,H.t4 hi,hs]
 have e7 : ∀ τ,(re V τ 0).cell? ⟨C.tb i,3,none⟩ = some (.chan (some (C.ch i))):=fun τ=>H.t3 hi
 have e1 : ∀ τ,(re V τ 0).cell? ⟨C.tb i,1,none⟩ = some (.pointer (some ⟨C.cb,0,none⟩)):=fun τ=>H.t1 hi
 have e6 : ∀ τ,(re V τ 0).frozen? ⟨C.tb i,4,none⟩ = false:=fun τ=>H.f4 hi
 rw [enter_at (P:=Try.prog) _ Try.func79 rfl]
 simp only [Try.f79,Cw.tp]
 walk_nrm
 rcases hs' with rfl | rfl
 . skip
   obtain ⟨K,hK,hV,hD,key,yek⟩:=kKVD (L:=Lone) (J:=fun g=>To Try.prog Post E Lst 0 0 pend N role V g) (mu_to hO.ok) (muv_to hO.ok hn) (mud_to hO.ok)
   refine key _ ?_
   refine wB120 fun kk hkk=>?_
   refine mu_leave0 hK rfl rfl Try.func79 rfl ?_
   exact yek _ K0
 . skip
   obtain ⟨K,hK,hV,hD,key,yek⟩:=kKVD (L:=Lone) (J:=fun g=>To Try.prog Post E Lst 0 0 pend N role V g) (mu_to hO.ok) (muv_to hO.ok hn) (mud_to hO.ok)
   refine key _ ?_
   refine wB120 fun kk hkk=>?_
   refine mu_leave0 hK rfl rfl Try.func79 rfl ?_
   exact yek _ K0
end
open Go Go.Conc Go.Proofs
section
variable {C : Cw} {E : Env} {V : World} {ended : Bool} {st : Nat -> Int} {Post : Value -> World -> Prop} {Lst : Nat -> Nat -> Goroutine -> Prop} {h pend N : Nat} {role : Nat -> Role}
def Dfs (C : Cw) (bx : Nat) : List Deferred:=[⟨.fn (.func 161) #[.pointer (some ⟨bx,0,none⟩)],#[]⟩,⟨.fn (.func 160) #[],#[.pointer (some ⟨C.cb,3,none⟩)]⟩]
def RunFr (C : Cw) (bx : Nat) (Rf : Frame) : Prop:=∃ (a : Act) (ops : Array Oper) (i : Nat) (rest : List Nat) (k : List Item),Rf = (baseD 141).at a (.inRegion ops (i :: rest) :: k) /\ a.defers = Dfs C bx /\
 ∀ (K : Goroutine -> Prop) (R : World -> Prop),Mu Try.prog R K -> ∀ v,(∀ T todo,K (G { (baseD 141).at ⟨T,Dfs C bx⟩ todo with mode:=.returning } [rootF])) -> K (G ((baseD 141).at (a.put ((ops[i]?).bind (·.dst)) v) (.inRegion ops rest :: k)) [rootF])
def boxed (V : World) (v : Value) : World:={ V with heap:=V.heap.push (.cells #[v] 50) }
theorem norm_boxed {V : World} (hn : norm V = V) (v : Value) : norm (boxed V v) = boxed V v:=by
 have : norm (boxed V v) = boxed (norm V) v:=rfl
 rw [this,hn]
theorem boxed_get (V : World) (v : Value) (b : Nat) (hb : b ≠ V.heap.size) : (boxed V v).heap[b]? = V.heap[b]?:=by
 show (V.heap.push _)[b]? = _
 rw [Array.getElem?_push,if_neg hb]
theorem CwAt.box (H : CwAt C ended st V) (v : Value) : CwAt C ended st (boxed V v):=by
 obtain ⟨hl,ht⟩:=H
 refine ⟨?_,fun j hj=>?_⟩
 . rw [boxed_get _ _ _ (by have:=(Array.getElem?_eq_some_iff.1 hl).1; omega)]; exact hl
 . rw [boxed_get _ _ _ (by have:=(Array.getElem?_eq_some_iff.1 (ht j hj)).1; omega)]; exact ht j hj
theorem start_go (hO : CwOk E C) (hn : norm V = V) (H : CwAt C ended st V) {i : Nat} (hi : i < C.n) {fid : FuncId} {fn : Func} {cQ : Code} {first caps : Array Value} (hf : C.f i = .func (.func fid) first caps) (hfn : Try.prog.funcs[fid]? = some fn) (hname : (fn.name == "runtime.NumGoroutine") = false) (hb : fn.body = some cQ)
   (K0 : ∀ Rf,RunFr C V.heap.size Rf -> To Try.prog Post E Lst h 0 pend N role (boxed V (C.tp i)) (G (Frame.enter Try.prog fid (first ++ #[C.tp i] ++ caps) .normal) [Rf,rootF])) : To Try.prog Post E Lst h 0 pend N role V (born Try.prog ⟨.fn (.func 141) #[],#[C.tp i]⟩):=by
 have hn':=norm_boxed hn (C.tp i)
 have H':=H.box (C.tp i)
 have g1 : ∀ τ,(re (boxed V (C.tp i)) τ 0).cell? ⟨C.tb i,1,none⟩ = some (.pointer (some ⟨C.cb,0,none⟩)):=fun τ=>H'.t1 hi
 have g2 : ∀ τ,(re (boxed V (C.tp i)) τ 0).cell? ⟨C.tb i,2,none⟩ = some (.func (.func fid) first caps):=fun τ=>by rw [re_cell,H'.t2 hi,hf]
 have g0 : ∀ τ,(re (boxed V (C.tp i)) τ 0).cell? ⟨V.heap.size,0,none⟩ = some (.pointer (some ⟨C.tb i,0,none⟩)):=fun τ=>by
   rw [re_cell]
   exact cell_of (b:=V.heap.size) (k:=0) (cs:=#[C.tp i]) (t:=50) (f:=(0,0)) (by show (V.heap.push _)[V.heap.size]? = _; simp) (by simp [Cw.tp])
 obtain ⟨K,hK,hV,hD,key,yek⟩:=kKVD (L:=Lone) (J:=fun g=>To Try.prog Post E Lst h 0 pend N role V g) (mu_to hO.ok) (muv_to hO.ok hn) (mud_to hO.ok)
 refine key _ ?_
 refine mu_child hK Try.func141 (by kernel_rfl) rfl ?_
 rw [enter_atD (P:=Try.prog) _ Try.func141 rfl]
 simp only [Try.f141]
 walk_nrm
 refine mu_seq hK ?_
 refine mu_regionH hK (fun kk hkk=>?_)
 simp only [List.size_toArray,List.length_cons,List.length_nil,Nat.reduceAdd,Nat.zero_add,List.range,List.range.loop]
 refine yek _ ?_
 clear hK hV hD key yek K
 refine mua_put (L:=Lone) (v:=.pointer (some ⟨V.heap.size,0,none⟩)) (mua_to hO.ok hn') (K:=fun g=>To Try.prog Post E Lst h 0 pend N role V g) (K':=fun g=>To Try.prog Post E Lst h 0 pend N role (boxed V (C.tp i)) g) rfl (.inr rfl) rfl (by kernel_rfl) (fun τ=>?_) ?_
 . go_simp
   exact ⟨rfl,rfl⟩
 obtain ⟨K,hK,hV,hD,key,yek⟩:=kKVD (L:=Lone) (J:=fun g=>To Try.prog Post E Lst h 0 pend N role (boxed V (C.tp i)) g) (mu_to hO.ok) (muv_to hO.ok hn') (mud_to hO.ok)
 refine key _ ?_
 walk_nrm
 refine wB120 fun kk hkk=>?_
 refine mu_deferV (d:=⟨.fn (.func 160) #[],#[.pointer (some ⟨C.cb,3,none⟩)]⟩) hK rfl rfl (by decide) (fun w=>by go_simp; try rfl) (fun w=>by simp [go_sem]) ?_
 walk_nrm
 refine wB120 fun kk hkk=>?_
 refine mu_deferV (d:=⟨.fn (.func 161) #[.pointer (some ⟨V.heap.size,0,none⟩)],#[]⟩) hK rfl rfl (by decide) (fun w=>by go_simp; try rfl) (fun w=>by simp [go_sem]) ?_
 walk_nrm
 refine wB120 fun kk hkk=>?_
 refine mu_draw 5 hK hV hD (.inr rfl) (by kernel_rfl) ?_
 refine wS ?_
 refine anyQ 0 6 rfl ?_
 refine anyQ 1 6 rfl ?_
 refine anyQ 2 6 rfl ?_
 refine anyQ 3 6 rfl ?_
 refine anyQ 4 6 rfl ?_
 refine anyP_last (by kernel_rfl) (fun t=>?_)
 simp only [Region.linearise.go,List.reverse_nil]
 refine mu_enterV (f:=fid) (args:=first ++ #[C.tp i] ++ caps) hK rfl rfl (by decide) (fun w=>?_) (fun w=>?_) ?_
 . go_simp
   have h1 : ¬ fn.name = "runtime.NumGoroutine" := by simpa using hname
   simp [callFunc,hfn,h1,hb,Cw.tp]
 . have h1 : ¬ fn.name = "runtime.NumGoroutine" := by simpa using hname
   simp [go_sem,callFunc,hfn,h1,hb]
 refine yek _ ?_
 clear hK hV hD key yek K
 refine K0 _ ⟨_,_,_,_,_,rfl,rfl,fun K R hK v hT=>?_⟩
 walk_nrm
 refine wB121 fun kk hkk=>?_
 exact hT _ _
end
def UF (f : Frame) : Prop:=f.mode = .run /\ f.kind = .normal /\ f.defers = [] /\ (∃ fn,Try.prog.funcs[f.fn]? = some fn) /\ ∃ (b : Frame) (a : Act) (ops : Array Oper) (i : Nat) (rest : List Nat) (k : List Item),f = b.at a (.inRegion ops (i :: rest) :: k)
structure LsV (C : Cw) (V : World) : Prop where
 l : ∃ b,C.l = .slice b C.n C.cap /\ (0 < C.n -> b = some ⟨C.lb,0,none⟩)
 at_ : ∀ j,j < C.n -> V.cell? ⟨C.lb,j,none⟩ = some (C.tp j)
 ne : ∀ j,j < C.n -> C.lb ≠ C.tb j
theorem LsV.keep {C : Cw} {V V' : World} (h : LsV C V) (e : V'.heap[C.lb]? = V.heap[C.lb]?) : LsV C V':=⟨h.l,fun j hj=>by
 have:=h.at_ j hj
 unfold World.cell? at *
 simp only at *
 rw [e]; exact this,h.ne⟩
structure Usr where
 S : Type
 inv : S -> (Nat -> Prop) -> World -> Prop
 st : S -> Nat -> Int
 loc : S -> Nat -> List Frame -> Prop
 turn : S -> Nat -> S
 fid : Nat -> FuncId
 first : Nat -> Array Value
 caps : Nat -> Array Value
 mem : List Frame -> (Nat -> Prop) -> World -> Prop:=fun _ _ _=>True
def TEnd (C : Cw) (U : Usr) (σ : U.S) (i : Nat) (own : Nat -> Prop) (VQ : World) (Rf : Frame) (g : Goroutine) (V : World) : Prop :=
 norm V = V /\ VQ.heap.size <= V.heap.size /\ (∀ b,b < VQ.heap.size -> ¬ own b -> (∀ j,j < C.n -> b ≠ C.tb j) -> V.heap[b]? = VQ.heap[b]?) /\
 (∃ own',U.inv (U.turn σ i) own' V /\ ∀ b,own' b -> (own b ∨ VQ.heap.size <= b) /\ b < V.heap.size) /\ CwAt C false (upd (U.st (U.turn σ i)) i 1) V /\
 ((U.st (U.turn σ i) i = 1 /\ (∃ fr cs,g = G (Frame.enter Try.prog 24 #[C.tp i] .normal) (fr :: cs ++ [Rf,rootF]) /\ U.loc (U.turn σ i) i (fr :: cs))) ∨
  (U.st (U.turn σ i) i = 2 /\ (∃ fr cs,g = G (Frame.enter Try.prog 25 #[C.tp i] .normal) (fr :: cs ++ [Rf,rootF]) /\ U.loc (U.turn σ i) i (fr :: cs))) ∨
  (U.st (U.turn σ i) i = 3 /\ ((∃ v a ops iQ rest k,Rf = (baseD 141).at a (.inRegion ops (iQ :: rest) :: k) /\ g = G ((baseD 141).at (a.put ((ops[iQ]?).bind (·.dst)) v) (.inRegion ops rest :: k)) [rootF]) ∨ ∃ v,g = G { Rf with mode:=.panicking [{ v:=v,recovered:=false }] } [rootF])))
def TEndM (C : Cw) (U : Usr) (σ : U.S) (i : Nat) (own : Nat -> Prop) (VQ : World) (Rf : Frame) (g : Goroutine) (V : World) : Prop :=
 norm V = V /\ VQ.heap.size <= V.heap.size /\ (∀ b,b < VQ.heap.size -> ¬ own b -> (∀ j,j < C.n -> b ≠ C.tb j) -> V.heap[b]? = VQ.heap[b]?) /\ CwAt C false (upd (U.st (U.turn σ i)) i 1) V /\
 ∃ own',U.inv (U.turn σ i) own' V /\ (∀ b,own' b -> (own b ∨ VQ.heap.size <= b) /\ b < V.heap.size) /\ (∀ cs,U.mem cs own VQ -> U.mem cs own' V) /\
 ((U.st (U.turn σ i) i = 1 /\ (∃ fr cs,g = G (Frame.enter Try.prog 24 #[C.tp i] .normal) (fr :: cs ++ [Rf,rootF]) /\ U.loc (U.turn σ i) i (fr :: cs) /\ U.mem (fr :: cs) own' V)) ∨
  (U.st (U.turn σ i) i = 2 /\ (∃ fr cs,g = G (Frame.enter Try.prog 25 #[C.tp i] .normal) (fr :: cs ++ [Rf,rootF]) /\ U.loc (U.turn σ i) i (fr :: cs) /\ U.mem (fr :: cs) own' V)) ∨
  (U.st (U.turn σ i) i = 3 /\ ((∃ v a ops iQ rest k,Rf = (baseD 141).at a (.inRegion ops (iQ :: rest) :: k) /\ g = G ((baseD 141).at (a.put ((ops[iQ]?).bind (·.dst)) v) (.inRegion ops rest :: k)) [rootF]) ∨ ∃ v,g = G { Rf with mode:=.panicking [{ v:=v,recovered:=false }] } [rootF])))
structure UOkS (E : Env) (C : Cw) (U : Usr) : Prop where
 frame : ∀ σ own V V',U.inv σ own V -> (∀ b,own b -> V'.heap[b]? = V.heap[b]?) -> V.heap.size <= V'.heap.size -> U.inv σ own V'
 uf : ∀ σ i cs,U.loc σ i cs -> ∀ f ∈ cs,UF f
 locT : ∀ σ i j cs,i < C.n -> (U.st σ i = 0 ∨ U.st σ i = 1) -> j ≠ i -> U.loc σ j cs -> U.loc (U.turn σ i) j cs
 stT : ∀ σ i j,i < C.n -> (U.st σ i = 0 ∨ U.st σ i = 1) -> j < C.n -> j ≠ i -> U.st (U.turn σ i) j = U.st σ j ∨ (U.st σ j = 2 /\ U.st (U.turn σ i) j = 1)
 stR : ∀ σ i,i < C.n -> U.st σ i = 0 ∨ U.st σ i = 1 ∨ U.st σ i = 2 ∨ U.st σ i = 3
 fn : ∀ σ i, i < C.n -> U.st σ i = 0 -> C.f i = .func (.func (U.fid i)) (U.first i) (U.caps i) /\ ∃ fn c, Try.prog.funcs[U.fid i]? = some fn /\ (fn.name == "runtime.NumGoroutine") = false /\ fn.body = some c
 start : ∀ σ i own V Rf bx,i < C.n -> U.st σ i = 0 -> RunFr C bx Rf -> norm V = V -> CwAt C false (upd (U.st σ) i 1) V -> U.inv σ own V -> (∀ b,own b -> b < V.heap.size /\ b ≠ C.cb /\ ∀ j,j < C.n -> b ≠ C.tb j) -> LsV C V -> (∀ b,own b -> b ≠ C.lb) ->
   Will Try.prog false E.Z (TEnd C U σ i own V Rf) (G (Frame.enter Try.prog (U.fid i) (U.first i ++ #[C.tp i] ++ U.caps i) .normal) [Rf,rootF]) V
 resume : ∀ σ i own V Rf bx (b : Frame) (a : Act) (ops : Array Oper) (iQ : Nat) (rest : List Nat) (k : List Item) (cs : List Frame),i < C.n -> U.st σ i = 1 -> U.loc σ i (b.at a (.inRegion ops (iQ :: rest) :: k) :: cs) -> RunFr C bx Rf -> norm V = V -> CwAt C false (U.st σ) V -> U.inv σ own V -> (∀ b,own b -> b < V.heap.size /\ b ≠ C.cb /\ ∀ j,j < C.n -> b ≠ C.tb j) -> LsV C V -> (∀ b,own b -> b ≠ C.lb) ->
   Will Try.prog false E.Z (TEnd C U σ i own V Rf) (G (b.at (a.put ((ops[iQ]?).bind (·.dst)) (.tuple #[])) (.inRegion ops rest :: k)) (cs ++ [Rf,rootF])) V
structure UOk (E : Env) (C : Cw) (U : Usr) : Prop where
 frame : ∀ σ own V V',U.inv σ own V -> (∀ b,own b -> V'.heap[b]? = V.heap[b]?) -> V.heap.size <= V'.heap.size -> U.inv σ own V'
 mframe : ∀ cs own V V',U.mem cs own V -> (∀ b,own b -> V'.heap[b]? = V.heap[b]?) -> V.heap.size <= V'.heap.size -> U.mem cs own V'
 uf : ∀ σ i cs,U.loc σ i cs -> ∀ f ∈ cs,UF f
 locT : ∀ σ i j cs,i < C.n -> (U.st σ i = 0 ∨ U.st σ i = 1) -> j ≠ i -> U.loc σ j cs -> U.loc (U.turn σ i) j cs
 stT : ∀ σ i j,i < C.n -> (U.st σ i = 0 ∨ U.st σ i = 1) -> j < C.n -> j ≠ i -> U.st (U.turn σ i) j = U.st σ j ∨ (U.st σ j = 2 /\ U.st (U.turn σ i) j = 1)
 stR : ∀ σ i,i < C.n -> U.st σ i = 0 ∨ U.st σ i = 1 ∨ U.st σ i = 2 ∨ U.st σ i = 3
 fn : ∀ σ i, i < C.n -> U.st σ i = 0 -> C.f i = .func (.func (U.fid i)) (U.first i) (U.caps i) /\ ∃ fn c, Try.prog.funcs[U.fid i]? = some fn /\ (fn.name == "runtime.NumGoroutine") = false /\ fn.body = some c
 start : ∀ σ i own V Rf bx,i < C.n -> U.st σ i = 0 -> RunFr C bx Rf -> norm V = V -> CwAt C false (upd (U.st σ) i 1) V -> U.inv σ own V -> (∀ b,own b -> b < V.heap.size /\ b ≠ C.cb /\ ∀ j,j < C.n -> b ≠ C.tb j) -> LsV C V -> (∀ b,own b -> b ≠ C.lb) ->
   WillM Try.prog false E.Z (TEndM C U σ i own V Rf) 0 (G (Frame.enter Try.prog (U.fid i) (U.first i ++ #[C.tp i] ++ U.caps i) .normal) [Rf,rootF]) V
 resume : ∀ σ i own V Rf bx (b : Frame) (a : Act) (ops : Array Oper) (iQ : Nat) (rest : List Nat) (k : List Item) (cs : List Frame),i < C.n -> U.st σ i = 1 -> U.loc σ i (b.at a (.inRegion ops (iQ :: rest) :: k) :: cs) -> U.mem (b.at a (.inRegion ops (iQ :: rest) :: k) :: cs) own V -> RunFr C bx Rf -> norm V = V -> CwAt C false (U.st σ) V -> U.inv σ own V -> (∀ b,own b -> b < V.heap.size /\ b ≠ C.cb /\ ∀ j,j < C.n -> b ≠ C.tb j) -> LsV C V -> (∀ b,own b -> b ≠ C.lb) ->
   WillM Try.prog false E.Z (TEndM C U σ i own V Rf) 0 (G (b.at (a.put ((ops[iQ]?).bind (·.dst)) (.tuple #[])) (.inRegion ops rest :: k)) (cs ++ [Rf,rootF])) V
theorem TEnd.up {C : Cw} {U : Usr} {σ : U.S} {i : Nat} {own : Nat -> Prop} {VQ : World} {Rf : Frame} {g : Goroutine} {V : World} (hm : ∀ cs o W,U.mem cs o W) (h : TEnd C U σ i own VQ Rf g V) : TEndM C U σ i own VQ Rf g V:=by
 obtain ⟨h1,h2,h3,⟨own',h4,h5⟩,h6,h7⟩:=h
 refine ⟨h1,h2,h3,h6,own',h4,h5,fun _ _=>hm _ _ _,?_⟩
 rcases h7 with ⟨a,fr,cs,b,c⟩ | ⟨a,fr,cs,b,c⟩ | h
 . exact .inl ⟨a,fr,cs,b,c,hm _ _ _⟩
 . exact .inr (.inl ⟨a,fr,cs,b,c,hm _ _ _⟩)
 . exact .inr (.inr h)
theorem UOkS.up {E : Env} {C : Cw} {U : Usr} (h : UOkS E C U) (hm : ∀ cs o W,U.mem cs o W) : UOk E C U :=
 ⟨h.frame,fun _ _ _ _ _ _ _=>hm _ _ _,h.uf,h.locT,h.stT,h.stR,h.fn,fun σ i own V Rf bx a1 a2 a3 a4 a5 a6 a7 a8 a9=>willM_of_will ((h.start σ i own V Rf bx a1 a2 a3 a4 a5 a6 a7 a8 a9).mono fun g V hT=>.stop (hT.up hm)),fun σ i own V Rf bx b a ops iQ rest k cs a1 a2 a3 _ a4 a5 a6 a7 a8 a9 b1=>willM_of_will ((h.resume σ i own V Rf bx b a ops iQ rest k cs a1 a2 a3 a4 a5 a6 a7 a8 a9 b1).mono fun g V hT=>.stop (hT.up hm))⟩
def Standing (U : Usr) (σ : U.S) (i : Nat) : Prop:=U.st σ i = 1 ∨ U.st σ i = 2
structure Sit (C : Cw) (U : Usr) (σ : U.S) (D : Nat -> Prop) (ow : Nat -> Nat) (role : Nat -> Role) (N : Nat) (V : World) : Prop where
 sit : ∀ i,i < C.n -> D i -> ∃ x bx r fr cs Rf,x ≠ 0 /\ x < N /\ role x = .seat (C.ch i) (.bool false) r /\ Resume (fr :: cs ++ [Rf,rootF]) r /\ (U.loc σ i (fr :: cs) /\ U.mem (fr :: cs) (fun b=>ow b = 3) V) /\ RunFr C bx Rf /\ ow bx = 1 /\ (∀ j,j < C.n -> bx ≠ C.tb j) /\ V.cell? ⟨bx,0,none⟩ = some (C.tp i)
 only : ∀ x c z r,x ≠ 0 -> role x = .seat c z r -> x < N /\ ∃ i,i < C.n /\ D i /\ c = C.ch i
 inj : ∀ x x' c z z' r r',x ≠ 0 -> x' ≠ 0 -> role x = .seat c z r -> role x' = .seat c z' r' -> x = x'
def fresh (U : Usr) (σ : U.S) (i : Nat) : Nat:=if U.st σ i = 0 then 1 else 0
structure Sea (C : Cw) (U : Usr) (σ : U.S) (ow : Nat -> Nat) (role : Nat -> Role) (N : Nat) (V : World) (ended : Bool) : Prop where
 cw : CwAt C ended (U.st σ) V
 inv : U.inv σ (fun b=>ow b = 3) V
 nrm : norm V = V
 n0 : 0 < N
 r0 : role 0 = .fin
 lt : ∀ b,ow b ≠ 0 -> b < V.heap.size
 oc : ow C.cb = 1
 ot : ∀ i,i < C.n -> ow (C.tb i) = 1
 sits : Sit C U σ (Standing U σ) ow role N V
 cnt : sumTo N (counts role) + sumTo C.n (fresh U σ) <= C.n
section
variable {C : Cw} {E : Env} {U : Usr} {σ : U.S} {ow : Nat -> Nat} {role : Nat -> Role} {N : Nat} {V VQ : World} {Post : Value -> World -> Prop}
theorem cell_same {V V' : World} {b k : Nat} {v : Value} (h : V.cell? ⟨b,k,none⟩ = some v) (he : V'.heap[b]? = V.heap[b]?) : V'.cell? ⟨b,k,none⟩ = some v:=by
 unfold World.cell? at *
 simp only at *
 rw [he]; exact h
open Classical in
noncomputable def ow' (ow : Nat -> Nat) (own' : Nat -> Prop) (b : Nat) : Nat:=if own' b then 3 else if ow b = 3 then 0 else ow b
theorem sea_after (hO : CwOk E C) (hU : UOk E C U) {i h bx : Nat} {Rf : Frame} {X : Role} {V' : World} {own' : Nat -> Prop} (hi : i < C.n) (hsi : U.st σ i = 0 ∨ U.st σ i = 1) (hpos : 0 < h) (hN : h < N) (hh : role h = .fin) (hRf : RunFr C bx Rf) (hbo : ow bx = 1) (hbt : ∀ j,j < C.n -> bx ≠ C.tb j) (hbc : VQ.cell? ⟨bx,0,none⟩ = some (C.tp i))
   (hsit : Sit C U σ (fun j=>Standing U σ j /\ j ≠ i) ow role N VQ) (lt : ∀ b,ow b ≠ 0 -> b < VQ.heap.size) (oc : ow C.cb = 1) (ot : ∀ i,i < C.n -> ow (C.tb i) = 1) (hcnt : sumTo N (counts role) + sumTo C.n (fresh U (U.turn σ i)) <= C.n)
   (hn : norm V' = V') (hsz : VQ.heap.size <= V'.heap.size) (hkeep : ∀ b,b < VQ.heap.size -> ¬ ow b = 3 -> (∀ j,j < C.n -> b ≠ C.tb j) -> V'.heap[b]? = VQ.heap[b]?) (hinv : U.inv (U.turn σ i) own' V') (hown : ∀ b,own' b -> (ow b = 3 ∨ VQ.heap.size <= b) /\ b < V'.heap.size) (hcw : CwAt C false (U.st (U.turn σ i)) V')
   (hmem : ∀ cs,U.mem cs (fun b=>ow b = 3) VQ -> U.mem cs own' V')
   (hX : (Standing U (U.turn σ i) i /\ ∃ r fr cs,X = .seat (C.ch i) (.bool false) r /\ Resume (fr :: cs ++ [Rf,rootF]) r /\ U.loc (U.turn σ i) i (fr :: cs) /\ U.mem (fr :: cs) own' V') ∨ (U.st (U.turn σ i) i = 3 /\ X = .fin)) :
   Sea C U (U.turn σ i) (ow' ow own') (upd (upd role h X) 0 .fin) N V' false:=by
 have how : ∀ b,ow b = 1 ∨ ow b = 2 -> ow' ow own' b = ow b:=fun b hb=>by
   unfold ow'
   rw [if_neg,if_neg (by omega)]
   intro ho
   rcases (hown b ho).1 with h1 | h1
   . omega
   . have:=lt b (by omega); omega
 have how3 : ∀ b,ow' ow own' b = 3 -> own' b:=fun b hb=>by
   unfold ow' at hb
   split at hb
   . assumption
   . split at hb
     . omega
     . rename_i h1 h2; exact absurd hb h2
 have hr : ∀ x,x ≠ 0 -> x ≠ h -> upd (upd role h X) 0 .fin x = role x:=fun x h1 h2=>by rw [upd_ne _ _ h1,upd_ne _ _ h2]
 have hrh : upd (upd role h X) 0 .fin h = X:=by rw [upd_ne _ _ (by omega),upd_same]
 have hstand : ∀ j,j < C.n -> j ≠ i -> Standing U (U.turn σ i) j -> Standing U σ j:=fun j hj hji hs=>by
   rcases hU.stT σ i j hi hsi hj hji with h1 | ⟨h1,_⟩
   . unfold Standing at *; rw [← h1]; exact hs
   . exact .inr h1
 have hstand' : ∀ j,j < C.n -> j ≠ i -> Standing U σ j -> Standing U (U.turn σ i) j:=fun j hj hji hs=>by
   rcases hU.stT σ i j hi hsi hj hji with h1 | ⟨_,h1⟩
   . unfold Standing at *; rw [h1]; exact hs
   . exact .inl h1
 have hcellk : ∀ b v,ow b = 1 -> (∀ j,j < C.n -> b ≠ C.tb j) -> VQ.cell? ⟨b,0,none⟩ = some v -> V'.cell? ⟨b,0,none⟩ = some v:=fun b v hb ht hc=>cell_same hc (hkeep b (lt b (by omega)) (by omega) ht)
 have hoe : (fun b=>ow' ow own' b = 3) = own':=by
   funext b
   apply propext
   exact ⟨how3 b,fun hb=>by unfold ow'; rw [if_pos hb]⟩
 refine ⟨hcw,?_,hn,by omega,upd_same _ _ _,fun b hb=>?_,?_,fun j hj=>?_,⟨fun j hj hD=>?_,fun x c z r hx hrx=>?_,fun x x' c z z' r r' hx hx' h1 h2=>?_⟩,?_⟩
 . rw [hoe]; exact hinv
 . unfold ow' at hb
   split at hb
   . rename_i h1; exact (hown b h1).2
   . split at hb
     . omega
     . have:=lt b hb; omega
 . rw [how _ (.inl oc)]; exact oc
 . rw [how _ (.inl (ot j hj))]; exact ot j hj
 . by_cases hji : j = i
   . subst hji
     rcases hX with ⟨_,r,fr,cs,e,h1,h2,h3⟩ | ⟨h1,_⟩
     . exact ⟨h,bx,r,fr,cs,Rf,by omega,hN,by rw [hrh]; exact e,h1,⟨h2,by rw [hoe]; exact h3⟩,hRf,by rw [how _ (.inl hbo)]; exact hbo,hbt,hcellk bx _ hbo hbt hbc⟩
     . rcases hD with h2 | h2 <;> omega
   . obtain ⟨x,bj,r,fr,cs,Rj,h1,h2,h3,h4,h5,h6,h7,h8,h9⟩:=hsit.sit j hj ⟨hstand j hj hji hD,hji⟩
     have hxh : x ≠ h:=fun e=>by subst e; rw [hh] at h3; cases h3
     exact ⟨x,bj,r,fr,cs,Rj,h1,h2,by rw [hr x h1 hxh]; exact h3,h4,⟨hU.locT σ i j _ hi hsi hji h5.1,by rw [hoe]; exact hmem _ h5.2⟩,h6,by rw [how _ (.inl h7)]; exact h7,h8,hcellk bj _ h7 h8 h9⟩
 . by_cases hxh : x = h
   . subst hxh
     rw [hrh] at hrx
     rcases hX with ⟨h0,r',fr,cs,e,_⟩ | ⟨_,e⟩
     . rw [e] at hrx; injection hrx with e1 _ _; exact ⟨hN,i,hi,h0,e1.symm⟩
     . rw [e] at hrx; cases hrx
   . rw [hr x hx hxh] at hrx
     obtain ⟨hl,j,hj,⟨hs,hji⟩,e⟩:=hsit.only x c z r hx hrx
     exact ⟨hl,j,hj,hstand' j hj hji hs,e⟩
 . have key : ∀ {y c z r},y ≠ 0 -> y ≠ h -> role y = .seat c z r -> c ≠ C.ch i:=fun {y c z r} hy hyh hry e=>by
     obtain ⟨_,j,hj,⟨_,hji⟩,e'⟩:=hsit.only y c z r hy hry
     exact hji (hO.chi j i hj hi (e'.symm.trans e))
   have hXc : ∀ {c z r},X = .seat c z r -> c = C.ch i:=fun {c z r} e=>by
     rcases hX with ⟨_,r',fr,cs,e',_⟩ | ⟨_,e'⟩
     . rw [e'] at e; injection e with e1 _ _; exact e1.symm
     . rw [e'] at e; cases e
   by_cases hxh : x = h <;> by_cases hxh' : x' = h
   . rw [hxh,hxh']
   . subst hxh
     rw [hrh] at h1
     rw [hr x' hx' hxh'] at h2
     exact absurd (hXc h1) (key hx' hxh' h2)
   . subst hxh'
     rw [hrh] at h2
     rw [hr x hx hxh] at h1
     exact absurd (hXc h2) (key hx hxh h1)
   . rw [hr x hx hxh] at h1
     rw [hr x' hx' hxh'] at h2
     exact hsit.inj x x' c z z' r r' hx hx' h1 h2
 . have hle : ∀ x,counts (upd (upd role h X) 0 .fin) x <= counts role x:=fun x=>by
     unfold counts
     by_cases e0 : x = 0
     . simp [e0]
     . rw [if_neg e0,if_neg e0]
       by_cases e1 : x = h
       . subst e1; rw [hrh,hh]; cases X <;> simp
       . rw [hr x e0 e1]; exact Nat.le_refl _
   have:=sum_le hle N
   omega
end
section
variable {C : Cw} {E : Env} {U : Usr} {σ : U.S} {ow : Nat -> Nat} {role : Nat -> Role} {N : Nat} {V VQ : World} {Post : Value -> World -> Prop} {bQ : Frame} {aQ : Act} {opsQ : Array Oper} {iQ : Nat} {restQ : List Nat} {kQ : List Item} {cs0 : List Frame}
theorem sum_le_of {f g : Nat -> Nat} : ∀ {n : Nat},(∀ x,x < n -> f x <= g x) -> sumTo n f <= sumTo n g
 | 0,_=>Nat.le_refl _
 | n + 1,h=>by
   simp only [sumTo]
   have h1:=sum_le_of (n:=n) fun x hx=>h x (by omega)
   have h2:=h n (by omega)
   omega
def freshBut (U : Usr) (σ : U.S) (i : Nat) (j : Nat) : Nat:=if j = i then 0 else fresh U σ j
def Back (C : Cw) (U : Usr) (E : Env) (Post : Value -> World -> Prop) (σ' : U.S) (ow : Nat -> Nat) (VQ : World) (g : Goroutine) : Prop :=
 ∀ N role' V' ow',Sea C U σ' ow' role' N V' false -> VQ.heap.size <= V'.heap.size -> (∀ b,ow b = 2 ↔ ow' b = 2) -> (∀ b,ow b = 2 -> V'.heap[b]? = VQ.heap[b]?) -> To Try.prog Post E (Las Try.prog E 3) 0 0 0 N role' V' g
theorem after_turn (hO : CwOk E C) (hU : UOk E C U) {i h bx : Nat} {Rf : Frame} {g r0 : _} (hi : i < C.n) (hsi : U.st σ i = 0 ∨ U.st σ i = 1) (hpos : 0 < h) (hN : h < N) (hh : role h = .fin) (hRf : RunFr C bx Rf) (hbo : ow bx = 1) (hbt : ∀ j,j < C.n -> bx ≠ C.tb j) (hbc : VQ.cell? ⟨bx,0,none⟩ = some (C.tp i))
   (hsit : Sit C U σ (fun j=>Standing U σ j /\ j ≠ i) ow role N VQ) (lt : ∀ b,ow b ≠ 0 -> b < VQ.heap.size) (oc : ow C.cb = 1) (ot : ∀ i,i < C.n -> ow (C.tb i) = 1) (hcnt : sumTo N (counts role) + sumTo C.n (freshBut U σ i) <= C.n)
   (h0 : role 0 = .seat C.bk (.int .i64 0) r0) (hM : ResumeM (.bool true) (bQ.at aQ (.inRegion opsQ (iQ :: restQ) :: kQ) :: cs0) r0) (hT : TEndM C U σ i (fun b=>ow b = 3) VQ Rf g V)
   (K : Back C U E Post (U.turn σ i) ow VQ (G (bQ.at (aQ.put ((opsQ[iQ]?).bind (·.dst)) (.bool true)) (.inRegion opsQ restQ :: kQ)) cs0)) : To Try.prog Post E (Las Try.prog E 3) h 0 0 N role V g:=by
 obtain ⟨hn,hsz,hkeep,hcw,own',hinv,hown,hmem,hcase⟩:=hT
 have hfree : ∀ x z r,role x ≠ .seat (C.ch i) z r:=fun x z r e=>by
   by_cases hx : x = 0
   . subst hx; rw [h0] at e; injection e with e1 _ _; exact hO.bki i hi e1.symm
   . obtain ⟨_,j,hj,⟨_,hji⟩,e'⟩:=hsit.only x _ z r hx e
     exact hji (hO.chi j i hj hi e'.symm)
 have h0n : 0 < N:=by omega
 have hcnt' : U.st (U.turn σ i) i ≠ 0 -> sumTo N (counts role) + sumTo C.n (fresh U (U.turn σ i)) <= C.n:=fun hne=>by
   have : sumTo C.n (fresh U (U.turn σ i)) <= sumTo C.n (freshBut U σ i):=sum_le_of fun j hj=>by
     unfold freshBut fresh
     by_cases e : j = i
     . subst e; rw [if_neg hne,if_pos rfl]; exact Nat.le_refl _
     . rw [if_neg e]
       rcases hU.stT σ i j hi hsi hj e with h1 | ⟨_,h1⟩
       . rw [h1]; exact Nat.le_refl _
       . rw [h1]; simp
   omega
 have h2 : ∀ (own' : Nat -> Prop),(∀ b,own' b -> (ow b = 3 ∨ VQ.heap.size <= b)) -> ∀ b,ow b = 2 ↔ ow' ow own' b = 2:=fun own' hown b=>by
   unfold ow'
   constructor
   . intro hb
     rw [if_neg,if_neg (by omega)]
     . exact hb
     . intro ho
       rcases hown b ho with h1 | h1
       . omega
       . have:=lt b (by omega); omega
   . intro hb
     split at hb
     . omega
     . split at hb <;> omega
 have hk2 : ∀ b,ow b = 2 -> V.heap[b]? = VQ.heap[b]?:=fun b hb=>hkeep b (lt b (by omega)) (by show ¬ ow b = 3; omega) fun j hj e=>by
   have:=ot j hj
   rw [← e] at this
   omega
 -- what is left to do for main
 have back : ∀ (X : Role) (V' : World),norm V' = V' -> V'.heap.size = V.heap.size -> (∀ b,b ≠ C.tb i -> V'.heap[b]? = V.heap[b]?) -> CwAt C false (U.st (U.turn σ i)) V' -> U.st (U.turn σ i) i ≠ 0 ->
     ((Standing U (U.turn σ i) i /\ ∃ r fr cs,X = .seat (C.ch i) (.bool false) r /\ Resume (fr :: cs ++ [Rf,rootF]) r /\ U.loc (U.turn σ i) i (fr :: cs) /\ U.mem (fr :: cs) own' V) ∨ (U.st (U.turn σ i) i = 3 /\ X = .fin)) ->
     ∀ v,To Try.prog Post E (Las Try.prog E 3) 0 0 0 N (upd (upd role h X) 0 .fin) V' (Go.Conc.served r0 (recvd false v true)):=by
   intro X V' hn' hs' hk' hc' hne hX v
   have hob : ∀ b,own' b -> b ≠ C.tb i:=fun b hb e=>by
     rcases (hown b hb).1 with h1 | h1
     . have:=ot i hi; rw [← e] at this; omega
     . have h3:=lt _ (by rw [ot i hi]; decide : ow (C.tb i) ≠ 0); rw [← e] at h3; omega
   have hmv : ∀ cs,U.mem cs own' V -> U.mem cs own' V':=fun cs h=>hU.mframe _ _ _ _ h (fun b hb=>hk' b (hob b hb)) (by omega)
   refine hM (fun g=>To Try.prog Post E (Las Try.prog E 3) 0 0 0 N (upd (upd role h X) 0 .fin) V' g) _ (mu_to hO.ok) v _ _ _ _ _ _ _ rfl ?_
   refine K N _ V' (ow' ow own') (sea_after hO hU hi hsi hpos hN hh hRf hbo hbt hbc hsit lt oc ot (hcnt' hne) hn' (by omega) (fun b hb h3 ht=>?_) (hU.frame _ _ _ _ hinv (fun b hb=>hk' b (hob b hb)) (by omega)) (fun b hb=>?_) hc' (fun cs h=>hmv _ (hmem cs h)) (hX.imp (fun ⟨a1,r,fr,cs,a2,a3,a4,a5⟩=>⟨a1,r,fr,cs,a2,a3,a4,hmv _ a5⟩) id)) (by omega) (h2 own' fun b hb=>(hown b hb).1) (fun b hb=>?_)
   . rw [hk' b (ht i hi)]; exact hkeep b hb h3 ht
   . exact ⟨(hown b hb).1,by have:=(hown b hb).2; omega⟩
   . rw [hk' b (fun e=>by have:=ot i hi; rw [← e] at this; omega)]; exact hk2 b hb
 rcases hcase with ⟨hst,fr,cs,rfl,hloc,hme⟩ | ⟨hst,fr,cs,rfl,hloc,hme⟩ | ⟨hst,hg⟩
 . have he : upd (U.st (U.turn σ i)) i 1 = U.st (U.turn σ i):=by
     funext j
     by_cases e : j = i
     . subst e; rw [upd_same,hst]
     . rw [upd_ne _ _ e]
   rw [he] at hcw
   exact yield_go hO hn hcw hi (by omega) h0n h0 hfree fun r hr=>back _ V hn rfl (fun _ _=>rfl) hcw (by omega) (.inl ⟨.inl hst,r,fr,cs,rfl,hr,hloc,hme⟩) _
 . refine park_go hO hn hcw hi (by omega) h0n h0 hfree fun r hr=>back _ _ (norm_set hn _ _) (size_setCell _ _ _) (fun b hb=>?_) ?_ (by omega) (.inl ⟨.inr hst,r,fr,cs,rfl,hr,hloc,hme⟩) _
   . rw [setCell_heap,if_neg hb]
   . have:=hcw.put hO hi 2
     have he : upd (upd (U.st (U.turn σ i)) i 1) i 2 = U.st (U.turn σ i):=by
       funext j
       by_cases e : j = i
       . subst e; rw [upd_same,hst]
       . rw [upd_ne _ _ e,upd_ne _ _ e]
     rw [he] at this
     exact this
 . have hbV : V.cell? ⟨bx,0,none⟩ = some (C.tp i):=cell_same hbc (hkeep bx (lt bx (by omega)) (by show ¬ ow bx = 3; omega) hbt)
   have fin:=back .fin (V.setCell ⟨C.tb i,4,none⟩ (.int .i64 3)) (norm_set hn _ _) (size_setCell _ _ _) (fun b hb=>by rw [setCell_heap,if_neg hb]) (by
     have:=hcw.put hO hi 3
     have he : upd (upd (U.st (U.turn σ i)) i 1) i 3 = U.st (U.turn σ i):=by
       funext j
       by_cases e : j = i
       . subst e; rw [upd_same,hst]
       . rw [upd_ne _ _ e,upd_ne _ _ e]
     rw [he] at this
     exact this) (by omega) (.inr ⟨hst,rfl⟩) (.int .i64 i)
   have over : ∀ (T : Array Value) (todo : List Item) (md : FrameMode) (v : Value),(md = .returning /\ v = .nilIface ∨ md = .panicking [{ v:=v,recovered:=false }]) ->
       To Try.prog Post E (Las Try.prog E 3) h 0 0 N role V (G { (baseD 141).at ⟨T,Dfs C bx⟩ todo with mode:=md } [rootF]):=fun T todo md v hmd =>
     over_go hO hn hcw hi hbV (hbt i hi) hpos h0n h0 hmd fin
   obtain ⟨a,ops,j,rest,k,e,hd,hback⟩:=hRf
   rcases hg with ⟨v,a',ops',j',rest',k',e',rfl⟩ | ⟨v,rfl⟩
   . have hRf' : RunFr C bx ((baseD 141).at a' (.inRegion ops' (j' :: rest') :: k')):=by rw [← e']; exact ⟨a,ops,j,rest,k,e,hd,hback⟩
     have e2 : (baseD 141).at a (.inRegion ops (j :: rest) :: k) = (baseD 141).at a' (.inRegion ops' (j' :: rest') :: k'):=e.symm.trans e'
     have t1 : a.tmps = a'.tmps:=congrArg Frame.tmps e2
     have t2 : a.defers = a'.defers:=congrArg Frame.defers e2
     have t3 : (Item.inRegion ops (j :: rest) :: k) = (.inRegion ops' (j' :: rest') :: k'):=congrArg Frame.todo e2
     have ta : a = a':=by cases a; cases a'; simp only at t1 t2; subst t1 t2; rfl
     injection t3 with t4 t5
     injection t4 with t6 t7
     injection t7 with t8 t9
     subst ta t5 t6 t8 t9
     exact hback (fun g=>To Try.prog Post E (Las Try.prog E 3) h 0 0 N role V g) _ (mu_to hO.ok) v fun T todo=>over T todo .returning .nilIface (.inl ⟨rfl,rfl⟩)
   . subst e
     have : ({ (baseD 141).at a (.inRegion ops (j :: rest) :: k) with mode:=.panicking [{ v:=v,recovered:=false }] } : Frame) = { (baseD 141).at ⟨a.tmps,Dfs C bx⟩ (.inRegion ops (j :: rest) :: k) with mode:=.panicking [{ v:=v,recovered:=false }] }:=by
       rw [← hd]
     rw [this]
     exact over _ _ _ v (.inr rfl)
theorem Sit.hold (H : Sit C U σ (Standing U σ) ow role N V) {i : Nat} {owQ : Nat -> Nat} {roleQ : Nat -> Role} {NY : Nat} {VY : World} (hNN : N <= NY) (hr : ∀ y c z r,y ≠ 0 -> role y = .seat c z r -> c ≠ C.ch i -> roleQ y = role y) (hr' : ∀ y c z r,y ≠ 0 -> roleQ y = .seat c z r -> role y = .seat c z r /\ c ≠ C.ch i)
   (hch : ∀ j,j < C.n -> j ≠ i -> C.ch j ≠ C.ch i) (how : ∀ b,ow b = 1 -> owQ b = 1) (hV : ∀ b,ow b = 1 -> (∀ j,j < C.n -> b ≠ C.tb j) -> VY.heap[b]? = V.heap[b]?) (hme : ∀ cs,U.mem cs (fun b=>ow b = 3) V -> U.mem cs (fun b=>owQ b = 3) VY) : Sit C U σ (fun j=>Standing U σ j /\ j ≠ i) owQ roleQ NY VY:=by
 refine ⟨fun j hj hD=>?_,fun x c z r hx hrx=>?_,fun x x' c z z' r r' hx hx' h1 h2=>?_⟩
 . obtain ⟨x,bj,r,fr,cs,Rj,h1,h2,h3,h4,h5,h6,h7,h8,h9⟩:=H.sit j hj hD.1
   exact ⟨x,bj,r,fr,cs,Rj,h1,by omega,by rw [hr x _ _ _ h1 h3 (hch j hj hD.2)]; exact h3,h4,⟨h5.1,hme _ h5.2⟩,h6,how _ h7,h8,cell_same h9 (hV _ h7 h8)⟩
 . obtain ⟨h1,h2⟩:=hr' x c z r hx hrx
   obtain ⟨h3,j,hj,hs,e⟩:=H.only x c z r hx h1
   exact ⟨by omega,j,hj,⟨hs,fun e'=>h2 (by rw [e,e'])⟩,e⟩
 . exact H.inj x x' c z z' r r' hx hx' (hr' x c z r hx h1).1 (hr' x' c z' r' hx' h2).1
theorem Sea.noBk (hO : CwOk E C) {e : Bool} (S : Sea C U σ ow role N V e) (x : Nat) (z : Value) (r : Goroutine) : role x ≠ .seat C.bk z r:=fun hx=>by
 by_cases h0 : x = 0
 . subst h0; rw [S.r0] at hx; cases hx
 . obtain ⟨_,i,hi,_,e⟩:=S.sits.only x _ z r h0 hx
   exact hO.bki i hi e.symm
theorem Sea.own (S : Sea C U σ ow role N V false) : ∀ b,ow b = 3 -> b < V.heap.size /\ b ≠ C.cb /\ ∀ j,j < C.n -> b ≠ C.tb j:=fun b hb =>
 ⟨S.lt b (by omega),fun e=>by have:=S.oc; rw [← e] at this; omega,fun j hj e=>by have:=S.ot j hj; rw [← e] at this; omega⟩
theorem counts_seat {role : Nat -> Role} {x : Nat} {c : Nat} {z : Value} {r : Goroutine} {s : Role} (hx : role x = .seat c z r) : ∀ y,counts (upd (upd role 0 s) x .fin) y <= counts role y:=fun y=>by
 unfold counts
 by_cases e0 : y = 0
 . simp [e0]
 . rw [if_neg e0,if_neg e0]
   by_cases e1 : y = x
   . subst e1; rw [upd_same,hx]; exact Nat.le_refl _
   . rw [upd_ne _ _ e1,upd_ne _ _ e0]; exact Nat.le_refl _
theorem counts_new {role : Nat -> Role} {N : Nat} {s : Role} (hN : 0 < N) : sumTo (N + 1) (counts (upd (upd role 0 s) N .fin)) <= sumTo N (counts role) + 1:=by
 simp only [sumTo]
 have h1 : sumTo N (counts (upd (upd role 0 s) N .fin)) <= sumTo N (counts role):=sum_le_of fun y hy=>by
   unfold counts
   by_cases e0 : y = 0
   . simp [e0]
   . rw [if_neg e0,if_neg e0,upd_ne _ _ (by omega),upd_ne _ _ e0]; exact Nat.le_refl _
 have h2 : counts (upd (upd role 0 s) N .fin) N <= 1:=by
   unfold counts
   split
   . omega
   . split <;> omega
 omega
theorem fresh_but {n i : Nat} (hi : i < n) (h0 : U.st σ i = 0) : sumTo n (freshBut U σ i) + 1 <= sumTo n (fresh U σ):=by
 have e : freshBut U σ i = upd (fresh U σ) i 0:=by
   funext j
   unfold freshBut
   by_cases e : j = i
   . subst e; rw [if_pos rfl,upd_same]
   . rw [if_neg e,upd_ne _ _ e]
 have h1 : sumTo n (upd (fresh U σ) i 0) + fresh U σ i = sumTo n (fresh U σ) + 0:=sumTo_upd (fresh U σ) 0 id hi
 have h2 : fresh U σ i = 1:=by unfold fresh; rw [if_pos h0]
 rw [e]
 omega
theorem fresh_but_le {n i : Nat} : sumTo n (freshBut U σ i) <= sumTo n (fresh U σ):=sum_le_of fun j _=>by
 unfold freshBut
 split
 . omega
 . exact Nat.le_refl _
theorem turn_go (hO : CwOk E C) (hU : UOk E C U) (hbig : C.n < 1000000) (S : Sea C U σ ow role N V false) {i : Nat} (hi : i < C.n) (hL : LsV C V) (hlo : ow C.lb = 2)
   (Kno : (U.st σ i = 2 ∨ U.st σ i = 3) -> To Try.prog Post E (Las Try.prog E 3) 0 0 0 N role V (G (bQ.at (aQ.put ((opsQ[iQ]?).bind (·.dst)) (.bool false)) (.inRegion opsQ restQ :: kQ)) cs0))
   (Kyes : (U.st σ i = 0 ∨ U.st σ i = 1) -> Back C U E Post (U.turn σ i) ow V (G (bQ.at (aQ.put ((opsQ[iQ]?).bind (·.dst)) (.bool true)) (.inRegion opsQ restQ :: kQ)) cs0)) :
   To Try.prog Post E (Las Try.prog E 3) 0 0 0 N role V (G (Frame.enter Try.prog 108 #[C.tp i] .normal) (bQ.at aQ (.inRegion opsQ (iQ :: restQ) :: kQ) :: cs0)):=by
 have hcase:=hU.stR σ i hi
 have hch : ∀ j,j < C.n -> j ≠ i -> C.ch j ≠ C.ch i:=fun j hj hji e=>hji (hO.chi j i hj hi e)
 rcases hcase with hs | hs | hs
 . -- the first turn
   have hc:=S.cnt
   have hf:=fresh_but (n:=C.n) hi hs
   refine step_fresh hO S.nrm S.cw hi hs (by omega) (S.noBk hO) fun rM hM=>?_
   obtain ⟨hfi,fn,c,hfn,hname,hb⟩:=hU.fn σ i hi hs
   have hn1:=norm_set S.nrm ⟨C.tb i,4,none⟩ (.int .i64 1)
   have H1:=S.cw.put hO hi 1
   generalize hV1 : V.setCell ⟨C.tb i,4,none⟩ (.int .i64 1) = V1 at *
   have hsz1 : V1.heap.size = V.heap.size:=by rw [← hV1]; exact size_setCell _ _ _
   have hk1 : ∀ b,b ≠ C.tb i -> V1.heap[b]? = V.heap[b]?:=fun b hb=>by rw [← hV1,setCell_heap,if_neg hb]
   have hbx : (boxed V1 (C.tp i)).heap.size = V.heap.size + 1:=by
     show (V1.heap.push _).size = _
     rw [Array.size_push,hsz1]
   have how : ∀ b,ow b ≠ 0 -> b ≠ V.heap.size:=fun b hb e=>by have:=S.lt b hb; omega
   refine start_go hO hn1 H1 hi hfi hfn hname hb fun Rf hRf=>?_
   rw [hsz1] at hRf
   have hk : ∀ b,ow b ≠ 0 -> b ≠ C.tb i -> (boxed V1 (C.tp i)).heap[b]? = V.heap[b]?:=fun b hb ht=>by
     rw [boxed_get _ _ _ (by rw [hsz1]; exact how b hb),hk1 b ht]
   have hN0 : (N == 0) = false:=by have:=S.n0; simp; omega
   refine (hU.start σ i (fun b=>ow b = 3) _ Rf V.heap.size hi hs hRf (norm_boxed hn1 _) (H1.box _) (hU.frame _ _ _ _ S.inv (fun b hb=>hk b (by omega) (fun e=>by have:=S.ot i hi; rw [← e] at this; omega)) (by omega)) (fun b hb=>?_) (hL.keep (hk _ (by omega) (hL.ne i hi))) (fun b hb e=>by rw [e] at hb; omega)) (fun d g V=>To Try.prog Post E (Las Try.prog E 3) N d 0 (N + 1) (upd (upd role 0 (.seat C.bk (.int .i64 0) rM)) N .fin) V g) (by have:=markTo (P:=Try.prog) (Post:=Post) (Lst:=Las Try.prog E 3) (h:=N) (pend:=0) (n:=N + 1) (role:=upd (upd role 0 (.seat C.bk (.int .i64 0) rM)) N .fin) hO.ok; rw [hN0] at this; exact this) fun g V2 hT=>?_
   . obtain ⟨h1,h2,h3⟩:=S.own b hb
     exact ⟨by omega,h2,h3⟩
   . have e3 : (fun b=>(if b = V.heap.size then 1 else ow b) = 3) = fun b=>ow b = 3:=by
       funext b
       by_cases e : b = V.heap.size
       . subst e
         rw [if_pos rfl]
         apply propext
         exact ⟨fun h=>by omega,fun h=>absurd rfl (how _ (by omega))⟩
       . rw [if_neg e]
     refine after_turn (ow:=fun b=>if b = V.heap.size then 1 else ow b) hO hU hi (.inl hs) S.n0 (by omega) (upd_same _ _ _) hRf (by simp) (fun j hj e=>?_) ?_ (S.sits.hold (by omega) (fun y c z r hy hry hcy=>?_) (fun y c z r hy hry=>?_) hch (fun b hb=>?_) (fun b hb ht=>hk b (by omega) (ht i hi)) (fun cs h=>by simp only [e3]; exact hU.mframe _ _ _ _ h (fun b hb=>hk b (by omega) (fun e=>by have:=S.ot i hi; rw [← e] at this; omega)) (by omega))) (fun b hb=>?_) ?_ (fun j hj=>?_) ?_ ?_ hM ?_ fun N' role' V' ow'' S' hsz' h2 hk'=>Kyes (.inl hs) N' role' V' ow'' S' (by omega) (fun b=>?_) (fun b hb=>?_)
     . have:=S.ot j hj
       exact how (C.tb j) (by omega) e.symm
     . exact cell_of (b:=V.heap.size) (k:=0) (cs:=#[C.tp i]) (t:=50) (f:=(0,0)) (by show (V1.heap.push _)[V.heap.size]? = _; rw [← hsz1]; simp) (by simp)
     . obtain ⟨hl,_⟩:=S.sits.only y c z r hy hry
       rw [upd_ne _ _ (by omega),upd_ne _ _ hy]
     . by_cases e : y = N
       . subst e; rw [upd_same] at hry; cases hry
       . rw [upd_ne _ _ e,upd_ne _ _ hy] at hry
         refine ⟨hry,fun e'=>?_⟩
         obtain ⟨_,j,hj,hsj,e2⟩:=S.sits.only y c z r hy hry
         by_cases hji : j = i
         . subst hji; rcases hsj with h | h <;> omega
         . exact hch j hj hji (e2.symm.trans e')
     . rw [if_neg (how b (by omega))]; exact hb
     . split at hb
       . omega
       . have:=S.lt b hb; omega
     . rw [if_neg (how _ (by rw [S.oc]; decide))]; exact S.oc
     . rw [if_neg (how _ (by rw [S.ot j hj]; decide))]; exact S.ot j hj
     . have:=counts_new (role:=role) (s:=.seat C.bk (.int .i64 0) rM) S.n0
       omega
     . rw [upd_ne _ _ (by have:=S.n0; omega),upd_same]
     . simp only [e3]
       exact hT
     . rw [← h2 b]
       show ow b = 2 ↔ (if b = V.heap.size then 1 else ow b) = 2
       by_cases e : b = V.heap.size
       . subst e
         rw [if_pos rfl]
         exact ⟨fun h=>absurd rfl (how _ (by omega)),fun h=>by omega⟩
       . rw [if_neg e]
     . rw [hk' b (by show (if b = V.heap.size then 1 else ow b) = 2; rw [if_neg (how b (by omega))]; exact hb)]
       exact hk b (by omega) fun e=>by have:=S.ot i hi; rw [← e] at this; omega
 . -- one that yielded
   obtain ⟨x,bx,r,fr,cs,Rf,hx0,hxN,hrx,hres,hloc,hRf,hbo,hbt,hbc⟩:=S.sits.sit i hi (.inl hs)
   refine step_ready hO S.nrm S.cw hi hs hx0 hxN hrx (S.noBk hO) fun rM hM=>?_
   obtain ⟨_,_,_,_,b,a,ops,j,rest,k,rfl⟩:=hU.uf σ i _ hloc.1 fr (by simp)
   refine hres.1 (fun g=>To Try.prog Post E (Las Try.prog E 3) x 0 0 N (upd (upd role 0 (.seat C.bk (.int .i64 0) rM)) x .fin) V g) _ (mu_to hO.ok) b a ops j rest k (cs ++ [Rf,rootF]) rfl ?_
   have hxb : (x == 0) = false:=by simpa using hx0
   refine (hU.resume σ i (fun b=>ow b = 3) V Rf bx b a ops j rest k cs hi hs hloc.1 hloc.2 hRf S.nrm S.cw S.inv S.own hL (fun b hb e=>by rw [e] at hb; omega)) (fun d g V=>To Try.prog Post E (Las Try.prog E 3) x d 0 N (upd (upd role 0 (.seat C.bk (.int .i64 0) rM)) x .fin) V g) (by have:=markTo (P:=Try.prog) (Post:=Post) (Lst:=Las Try.prog E 3) (h:=x) (pend:=0) (n:=N) (role:=upd (upd role 0 (.seat C.bk (.int .i64 0) rM)) x .fin) hO.ok; rw [hxb] at this; exact this) fun g V2 hT=>?_
   refine after_turn hO hU hi (.inr hs) (by omega) hxN (upd_same _ _ _) hRf hbo hbt hbc (S.sits.hold (Nat.le_refl _) (fun y c z r' hy hry hcy=>?_) (fun y c z r' hy hry=>?_) hch (fun _ h=>h) (fun _ _ _=>rfl) (fun _ h=>h)) S.lt S.oc S.ot ?_ ?_ hM hT (Kyes (.inr hs))
   . by_cases e : y = x
     . subst e; rw [hrx] at hry; injection hry with e1 _ _; exact absurd e1.symm hcy
     . rw [upd_ne _ _ e,upd_ne _ _ hy]
   . by_cases e : y = x
     . subst e; rw [upd_same] at hry; cases hry
     . rw [upd_ne _ _ e,upd_ne _ _ hy] at hry
       refine ⟨hry,fun e'=>?_⟩
       subst e'
       exact e (S.sits.inj y x _ _ _ _ _ hy hx0 hry hrx)
   . have h1:=S.cnt
     have h2:=sum_le (counts_seat (s:=.seat C.bk (.int .i64 0) rM) hrx) N
     have h3:=fresh_but_le (U:=U) (σ:=σ) (n:=C.n) (i:=i)
     omega
   . rw [upd_ne _ _ (Ne.symm hx0),upd_same]
 . exact step_idle hO S.nrm S.cw hi hs (Kno hs)
end
end Go.Proofs.Ytibcdikfbhmheaa
