import Derived.Test.YtibcdikfbhmheaaB10
import Derived.Conc.WgGenWait
import Derived.Conc.WgArith
import Derived.Test.YtibcdikfbhmheaaB09
set_option linter.unusedSimpArgs false
set_option linter.unusedVariables false
set_option maxRecDepth 100000
set_option maxHeartbeats 4000000
namespace Go.Proofs.Ytibcdikfbhmheaa
open Go Go.Conc Go.Conc.Lib Go.ConcR.Gen
open Go.ConcN (st_flag st_waiters)
open Go.ConcN (sumTo)
variable {P : Program} {L : WgLink}
variable {Post : Value -> World -> Prop} {h dh pend n : Nat} {role : Nat -> Role} {V : World}
theorem To.all_quit {E : Env} {Lst : Nat -> Nat -> Goroutine -> Prop} {g : Goroutine} (hz : sumTo n (counts role) = 0) (K : To P Post E Lst 0 dh 0 n role0 V g) : To P Post E Lst 0 dh 0 n role V g:=fun T gs w q role' sl hle hsz ha C=>by
 have e : role' = role0:=by
   funext x
   by_cases hx : x = 0
   . subst hx; rw [C.holder]; rfl
   . have hx0 : 0 < x:=by omega
     have : role0 x = .quit:=by simp [role0,hx]
     rw [this]
     by_cases hn : x < n
     . have h1:=sum_le (counts_le hle) n
       exact role_zero (n:=n) (by omega) hx0 hn
     . exact (C.above x (by omega)).2
 subst e
 exact K T gs w q role0 sl (RoleLe.refl _) hsz ha C
theorem to_enable_op {E : Env} {Lst : Nat -> Nat -> Goroutine -> Prop} (hE : EnvOk E) {g g' : Goroutine} (hr : g.status = .running) (hs : ∀ w,stepG P (h == 0) g w = .go g' w #[⟨.mark .enable,false,true⟩]) (K : To P Post E Lst h 0 pend n role V g') : To P Post E Lst h 1 pend n role V g :=
 To.mark (es:=#[⟨.mark .enable,false,true⟩]) hE hr (fun w _ _=>hs w) (fun w _ e he=>by
   simp only [List.mem_toArray,List.mem_cons,List.not_mem_nil,or_false] at he
   subst he
   exact ⟨fun b hb=>by simp [MemAct.ofEvent,MemAct.touch?] at hb,trivial⟩) K
theorem to_acquire {E : Env} {Lst : Nat -> Nat -> Goroutine -> Prop} (hE : EnvOk E) {g g' : Goroutine} (hr : g.status = .running) (hs : ∀ w,stepG P (h == 0) g w = .go g' w #[⟨.mark (.acquire E.st),false,true⟩]) (K : To P Post E Lst h dh pend n role V g') : To P Post E Lst h dh pend n role V g :=
 To.mark (es:=#[⟨.mark (.acquire E.st),false,true⟩]) hE hr (fun w _ _=>hs w) (fun w hw e he=>by
   simp only [List.mem_toArray,List.mem_cons,List.not_mem_nil,or_false] at he
   subst he
   refine ⟨fun b hb=>by simp [MemAct.ofEvent,MemAct.touch?] at hb,?_⟩
   have:=sm_lt hE hw
   rw [hE.sm.2.1] at this
   exact this) K
def WyQ (P : Program) (E : Env) (Q : Goroutine -> Prop) (g : Goroutine) : Prop:=∃ gY,Q gY /\ ∃ m,Wy P E gY m g
theorem mu_wyQ {E : Env} {Q : Goroutine -> Prop} : Mu P (SW P E) (WyQ P E Q):=fun g g' hr hs ⟨r,hQ,m,h⟩=>⟨r,hQ,m + 1,.plain hr (fun w hw=>hs _ w hw) h⟩
theorem wyQ_write {E : Env} {Q : Goroutine -> Prop} {g g' : Goroutine} (hr : g.status = .running) (hs : ∀ w,stepG P true g w = .go g' w #[⟨.mark (.write E.sm),false,true⟩]) (h : WyQ P E Q g') : WyQ P E Q g :=
 let ⟨r,hQ,m,h⟩:=h; ⟨r,hQ,m + 1,.said hr (fun w _=>hs w) h⟩
theorem wyQ_sem {E : Env} {Q : Goroutine -> Prop} (hE : EnvOk E) {b : Frame} {a : Act} {kk : List Item} {cs : List Frame} {f : FuncId} {fn : Func} {ops : Array Oper} {i : Nat} {rest : List Nat} {o : Oper} {ats : Array TypeId} {xs : Array Operand} (ho : ops[i]? = some o) (hw : Region.wanted o (yielded ops a.tmps) = true) (hk : b.kind ≠ .early) (hop : o.op = .call { callee:=.value (.func f),args:=xs,argTypes:=ats })
   (hf : P.funcs[f]? = some fn) (hname : (fn.name == "runtime.NumGoroutine") = false) (hb : fn.body.isNone = true) (hn : Extern.findNext fn = none)
   (he : Extern.find fn = some Extern.Sync.semacquire) (hx : (xs.map a.eval)[0]? = some (.pointer (some E.sm))) (h : Q (G (b.at (a.put o.dst (.tuple #[])) (.inRegion ops rest :: kk)) cs)) : WyQ P E Q (G (b.at a (.inRegion ops (i :: rest) :: kk)) cs) :=
 ⟨_,h,1,.here ⟨rfl,rfl,fun w _ hc=>stepG_semacquire_wait ho hw hop hf hname hb hn he hx hc,fun w hK hc=>(stepG_semacquire (n:=1) ho hw hk hop hf hname hb hn he hx hc (by decide) (thaw_sm hE hK)).trans rfl⟩⟩
theorem to_load_at {E : Env} {Lst : Nat -> Nat -> Goroutine -> Prop} (hE : EnvOk E) {b : Frame} {a : Act} {kk : List Item} {cs : List Frame} {f : FuncId} {fn : Func} {ops : Array Oper} {i : Nat} {rest : List Nat} {o : Oper} {ats : Array TypeId} {x : Operand} (ho : ops[i]? = some o) (hw : Region.wanted o (yielded ops a.tmps) = true) (hk : b.kind ≠ .early) (hop : o.op = .call { callee:=.value (.func f),args:=#[x],argTypes:=ats })
   (hf : P.funcs[f]? = some fn) (hname : (fn.name == "runtime.NumGoroutine") = false) (hb : fn.body.isNone = true) (hn : Extern.findNext fn = none)
   (he : Extern.find fn = some (Extern.Atomic.loadT (.int .u64))) (hx : a.eval x = .pointer (some E.st))
   (K : ∀ (v : Nat) roleQ,v < 2147483647 -> RoleLe role roleQ -> sumTo n (counts roleQ) + pend = v -> roleQ h = .fin -> To P Post E Lst h dh pend n roleQ V (G (b.at (a.put o.dst (.int .u64 (v * two32))) (.inRegion ops rest :: kk)) cs)) : To P Post E Lst h dh pend n role V (G (b.at a (.inRegion ops (i :: rest) :: kk)) cs) :=
 To.load (g':=fun v=>G (b.at (a.put o.dst (.int .u64 (v * two32))) (.inRegion ops rest :: kk)) cs) hE rfl (fun w v _ hK _ hc=>stepG_load_atomic ho hw hk hop hf hname hb hn .u64 he hx hc) K
theorem to_cas_at {E : Env} (hE : EnvOk E) {b : Frame} {a : Act} {kk : List Item} {cs : List Frame} {f : FuncId} {fn : Func} {ops : Array Oper} {i : Nat} {rest : List Nat} {o : Oper} {ats : Array TypeId} {x y z : Operand} (ho : ops[i]? = some o) (hw : Region.wanted o (yielded ops a.tmps) = true) (hk : b.kind ≠ .early) (hop : o.op = .call { callee:=.value (.func f),args:=#[x,y,z],argTypes:=ats })
   (hf : P.funcs[f]? = some fn) (hname : (fn.name == "runtime.NumGoroutine") = false) (hb : fn.body.isNone = true) (hn : Extern.findNext fn = none)
   (he : Extern.find fn = some (Extern.Atomic.casT (.int .u64))) {vs : Nat} (hv : 0 < vs) (hns : ∀ x,isSeat (role x) = false) (hx : a.eval x = .pointer (some E.st)) (hy : a.eval y = .int .u64 (vs * two32)) (hz : a.eval z = .int .u64 (vs * two32 + 1))
   (hW : WyQ P E (fun gY=>To P Post E (Las P E 3) 0 dh 0 n role0 V gY) (G (b.at (a.put o.dst (.bool true)) (.inRegion ops rest :: kk)) cs)) (Km : ∀ roleQ,RoleLe role roleQ -> sumTo n (counts roleQ) ≠ vs -> roleQ 0 = .fin -> To P Post E (Las P E 3) 0 dh 0 n roleQ V (G (b.at (a.put o.dst (.bool false)) (.inRegion ops rest :: kk)) cs)) :
   To P Post E (Las P E 3) 0 dh 0 n role V (G (b.at a (.inRegion ops (i :: rest) :: kk)) cs):=by
 obtain ⟨gY,hQ,m,hm⟩:=hW
 refine To.cas hE (gh:=G (b.at (a.put o.dst (.bool true)) (.inRegion ops rest :: kk)) cs) (gm:=G (b.at (a.put o.dst (.bool false)) (.inRegion ops rest :: kk)) cs) hv hns rfl (fun w _ hK hc=>stepG_cas_hit ho hw hk hop hf hname hb hn .u64 he hx hy hz hc (thaw_st hE hK)) (fun w v _ hK hne _ hc=>stepG_cas_miss ho hw hk hop hf hname hb hn .u64 he hx hy hz hc (thaw_st hE hK) (by simp only [two32]; omega)) hm hQ Km
theorem wB110 {A B : Prop} (h : B) (w : Hd B -> A:=by
 intro h
 repeat (first|(with_reducible first|apply hK.sq|apply hK.sk|(apply hK.re;try subst hkk)|apply hK.bl|refine mu_loop hK ?_|apply hK.ib|refine mu_inLoop hK ?_|apply hK.rt|apply hK.nd)|refine hK.ex rfl ?_|(with_reducible refine hK.rg fun kk hkk=>?_;simp only [ix,Nat.reduceAdd])|(with_reducible refine mu_cf hK ?_ ?_;(· first|(walk_nrm;done)|(simp [Act.eval];done)|(simp [Act.eval];omega)))|(with_reducible refine mu_ct hK ?_ ?_;(· first|(walk_nrm;done)|(simp [Act.eval];done)|(simp [Act.eval];omega)))|(refine hK.uw rfl rfl ?_;walk_nrm)|(refine mu_valB hK rfl rfl rfl (fun J hJ=>?_) (fun w=>by simp [go_sem, *]);go_simp;with_reducible refine hJ _ ?_;clear hJ J;walk_nrm;try w_num)|(refine mu_callB hK rfl rfl rfl H.f_uAdd (nm_uAdd L) rfl ?_;walk_nrmf uAddFn)|(refine mu_callB hK rfl rfl rfl H.f_uLoad (nm_uLoad L) rfl ?_;walk_nrmf uLoadFn)|(refine mu_callB hK rfl rfl rfl H.f_uStore (nm_uStore L) rfl ?_;walk_nrmf uStoreFn)|(refine mu_callB hK rfl rfl rfl H.f_uCas (nm_uCas L) rfl ?_;walk_nrmf uCasFn)|(refine mu_callB hK rfl rfl rfl H.f_add (nm_add L) rfl ?_;walk_nrmf addFn)|(refine mu_leave1 hK rfl rfl H.f_uAdd rfl ?_;walk_nrm)|(refine mu_leave1 hK rfl rfl H.f_uLoad rfl ?_;walk_nrm)|(refine mu_leave1 hK rfl rfl H.f_uCas rfl ?_;walk_nrm)|(refine mu_leave0 hK rfl rfl H.f_uStore rfl ?_;walk_nrm)|(refine mu_deferB hK rfl rfl rfl ?_;walk_nrm)|(refine mu_entryB hK (.bool false) rfl rfl rfl H.f_inBubble (x_inBubble_n L) (x_inBubble_b L) (x_inBubble_x L) (x_inBubble_f L) ?_;walk_nrm))
 repeat subst hkk
 exact h.h) : A:=w ⟨h⟩
set_option maxHeartbeats 16000000 in
theorem wait_head (H : WgLib P L) {E : Env} (hE : EnvOk E) {Wg : Nat} (hst : E.st = ⟨Wg,3,none⟩) (hsm : E.sm = ⟨Wg,4,none⟩) {bQ : Frame} {aQ : Act} {opsQ : Array Oper} {iQ : Nat} {restQ : List Nat} {kQ : List Item} {cs : List Frame} (K0 : To P Post E (Las P E 3) 0 0 0 n role0 V (G (bQ.at (aQ.put ((opsQ[iQ]?).bind (·.dst)) (.tuple #[])) (.inRegion opsQ restQ :: kQ)) cs)) :
   ∀ (m : Nat) (role : Nat -> Role) (T : Array Value),(∀ x,isSeat (role x) = false) -> sumTo n (counts role) <= m -> T.size = 84 -> T[0]? = some (.pointer (some ⟨Wg,3,none⟩)) -> To P Post E (Las P E 3) 0 1 0 n role V (G ((base L.wait).at ⟨T,[]⟩ [.code (L7 L),.inLoop (L7 L),.inBlock 0]) (bQ.at aQ (.inRegion opsQ (iQ :: restQ) :: kQ) :: cs)):=by
 obtain ⟨Z,Kc,st,sm⟩:=E
 simp only at hst hsm
 subst hst hsm
 have hcell3 : ∀ w,SW P ⟨Z,Kc,⟨Wg,3,none⟩,⟨Wg,4,none⟩⟩ w -> ∃ v,w.cell? ⟨Wg,3,none⟩ = some v:=fun w hw=>let ⟨_,_,x,hx⟩:=hw; ⟨_,hx⟩
 have hcell4 : ∀ w,SW P ⟨Z,Kc,⟨Wg,3,none⟩,⟨Wg,4,none⟩⟩ w -> ∃ v,w.cell? ⟨Wg,4,none⟩ = some v:=fun w hw=>let ⟨_,⟨x,hx⟩,_⟩:=hw; ⟨_,hx⟩
 lib_facts
 intro m
 induction m using Nat.strongRecOn with
 | _ m ih =>
 intro role T hns hm hT84 t0
 have hback : ∀ (roleY : Nat -> Role) (T' : Array Value),RoleLe role roleY -> sumTo n (counts roleY) < m -> T'.size = 84 -> T'[0]? = some (.pointer (some ⟨Wg,3,none⟩)) -> To P Post ⟨Z,Kc,⟨Wg,3,none⟩,⟨Wg,4,none⟩⟩ (Las P ⟨Z,Kc,⟨Wg,3,none⟩,⟨Wg,4,none⟩⟩ 3) 0 1 0 n roleY V (G ((base L.wait).at ⟨T',[]⟩ [.code (L7 L),.inLoop (L7 L),.inBlock 0]) (bQ.at aQ (.inRegion opsQ (iQ :: restQ) :: kQ) :: cs)):=fun roleY T' hle hlt h1 h2=>ih _ hlt roleY T' (fun x=>by
   rcases hle x with h3 | ⟨_,h3⟩
   . rw [h3]; exact hns x
   . rw [h3]; rfl) (Nat.le_refl _) h1 h2
 clear ih
 obtain ⟨v0,v1,v2,v3,v4,v5,v6,v7,v8,v9,v10,v11,v12,v13,v14,v15,v16,v17,v18,v19,v20,v21,v22,v23,v24,v25,v26,v27,v28,v29,v30,v31,v32,v33,v34,v35,v36,v37,v38,v39,v40,v41,v42,v43,v44,v45,v46,v47,v48,v49,v50,v51,v52,v53,v54,v55,v56,v57,v58,v59,v60,v61,v62,v63,v64,v65,v66,v67,v68,v69,v70,v71,v72,v73,v74,v75,v76,v77,v78,v79,v80,v81,v82,v83,rfl⟩:=array84 T hT84
 simp only [List.getElem?_toArray,List.getElem?_cons_zero,Option.some.injEq] at t0
 subst t0
 clear hT84
 simp only [L7,body_wait,waitFn,Option.getD_some] at hback ⊢
 obtain ⟨K,hK,key,yek⟩:=kK (J:=fun g=>To P Post ⟨Z,Kc,⟨Wg,3,none⟩,⟨Wg,4,none⟩⟩ (Las P ⟨Z,Kc,⟨Wg,3,none⟩,⟨Wg,4,none⟩⟩ 3) 0 1 0 n role V g) (mu_to hE)
 refine key _ ?_
 refine wB110 ?_
 refine yek _ ?_
 clear hK key yek K
 refine to_load_at hE rfl rfl (base_ne _) rfl H.f_loadU64 (x_loadU64_n L) (x_loadU64_b L) (x_loadU64_x L) (x_loadU64_f L) (by simp [Act.eval]) (fun v roleQ hv hle hcount h0=>?_)
 simp only [Nat.add_zero] at hcount
 simp only [two32]
 have hnsQ : ∀ x,isSeat (roleQ x) = false:=fun x=>by
   rcases hle x with h3 | ⟨_,h3⟩
   . rw [h3]; exact hns x
   . rw [h3]; rfl
 rcases Nat.eq_zero_or_pos v with rfl | hvp
 . simp only [Int.natCast_zero,Int.zero_mul,Int.add_zero,Int.ofNat_zero,Int.cast_ofNat_Int]
   refine To.all_quit hcount ?_
   clear hback
   obtain ⟨K,hK,key,yek⟩:=kK (J:=fun g=>To P Post ⟨Z,Kc,⟨Wg,3,none⟩,⟨Wg,4,none⟩⟩ (Las P ⟨Z,Kc,⟨Wg,3,none⟩,⟨Wg,4,none⟩⟩ 3) 0 1 0 n role0 V g) (mu_to hE)
   refine key _ ?_
   walk_nrm
   refine wB110 ?_
   refine yek _ ?_
   clear hK key yek K
   refine to_enable_op hE rfl (fun w=>stepG_mark0 .enable (by simp) rfl rfl (base_ne _) rfl H.f_enable (x_enable_n L) (x_enable_b L) (x_enable_x L) (x_enable_f L)) ?_
   obtain ⟨K,hK,key,yek⟩:=kK (J:=fun g=>To P Post ⟨Z,Kc,⟨Wg,3,none⟩,⟨Wg,4,none⟩⟩ (Las P ⟨Z,Kc,⟨Wg,3,none⟩,⟨Wg,4,none⟩⟩ 3) 0 0 0 n role0 V g) (mu_to hE)
   refine key _ ?_
   walk_nrm
   refine wB110 ?_
   refine mu_valR (v:=.pointer (some ⟨Wg,3,none⟩)) hK rfl rfl (base_ne _) (fun w hw=>?_) ?_
   . obtain ⟨x,hx⟩:=hcell3 w hw
     have hcv:=run_convert_to_unsafe (P:=P) H.underlying_tWgP H.underlying_tUP H.room_tWg hx
     have hce:=fun es=>events_convert_to_unsafe (P:=P) H.underlying_tWgP H.underlying_tUP H.room_tWg hx es
     refine ⟨?_,?_⟩
     . go_simp
     . simp [go_sem,hce]
   walk_nrm
   refine yek _ ?_
   clear hK key yek K
   refine to_acquire hE rfl (fun w=>stepG_markAt .acquire (by simp) rfl rfl (base_ne _) rfl H.f_acquire (x_acquire_n L) (x_acquire_b L) (x_acquire_x L) (x_acquire_f L) (by simp [Act.eval])) ?_
   obtain ⟨K,hK,key,yek⟩:=kK (J:=fun g=>To P Post ⟨Z,Kc,⟨Wg,3,none⟩,⟨Wg,4,none⟩⟩ (Las P ⟨Z,Kc,⟨Wg,3,none⟩,⟨Wg,4,none⟩⟩ 3) 0 0 0 n role0 V g) (mu_to hE)
   refine key _ ?_
   walk_nrm
   refine wB110 ?_
   refine mu_leave0 hK rfl rfl H.f_wait rfl ?_
   refine yek _ ?_
   exact K0
 . obtain ⟨S,hS⟩ : ∃ S : Int,S = (v : Int) * 4294967296 + ((0 : Nat) : Int):=⟨_,rfl⟩
   obtain ⟨W,hW⟩ : ∃ W : Int,W = (v : Int):=⟨_,rfl⟩
   have hS' : (v : Int) * 4294967296 = S:=by omega
   rw [hS']
   have a1 : S / 4294967296 = W:=by rw [hS,hW]; omega
   have b1 : bits .and .u64 S 2147483648 = 0:=by rw [hS]; exact st_flag v 0 (by omega) (by omega)
   have b2 : bits .and .u64 S 2147483647 = 0:=by rw [hS]; exact st_waiters v 0 (by omega) (by omega)
   have c1 : IntKind.i32.wrap W = W:=by rw [IntKind.wrap_i32]; omega
   have hW1 : 0 < W:=by omega
   have hW2 : W < 2147483648:=by omega
   have q3 : decide (W < 0) = false:=decide_eq_false (by omega)
   have q4 : decide (0 < W) = true:=decide_eq_true (by omega)
   have q5 : (W == 0) = false:=by simp; omega
   have q6 : decide (W = 0) = false:=decide_eq_false (by omega)
   have w1 : IntKind.u64.wrap (S + 1) = S + 1:=by rw [IntKind.wrap_u64,hS]; omega
   have hS2 : (v : Int) * two32 = S:=hS'
   clear hS hS' hW
   obtain ⟨K,hK,key,yek⟩:=kK (J:=fun g=>To P Post ⟨Z,Kc,⟨Wg,3,none⟩,⟨Wg,4,none⟩⟩ (Las P ⟨Z,Kc,⟨Wg,3,none⟩,⟨Wg,4,none⟩⟩ 3) 0 1 0 n roleQ V g) (mu_to hE)
   refine key _ ?_
   walk_nrm
   refine wB110 ?_
   refine yek _ ?_
   clear hK key yek K
   refine to_cas_at hE rfl rfl (base_ne _) rfl H.f_casU64 (x_casU64_n L) (x_casU64_b L) (x_casU64_x L) (x_casU64_f L) hvp hnsQ (by simp [Act.eval]) (by simp [Act.eval,hS2]) (by simp [Act.eval,hS2,w1]) ?_ (fun roleY hleY hne h02=>?_)
   . clear hback
     obtain ⟨K,hK,key,yek⟩:=kK (J:=WyQ P ⟨Z,Kc,⟨Wg,3,none⟩,⟨Wg,4,none⟩⟩ (fun gY=>To P Post ⟨Z,Kc,⟨Wg,3,none⟩,⟨Wg,4,none⟩⟩ (Las P ⟨Z,Kc,⟨Wg,3,none⟩,⟨Wg,4,none⟩⟩ 3) 0 1 0 n role0 V gY)) mu_wyQ
     refine key _ ?_
     walk_nrm
     refine wB110 ?_
     refine mu_valR (v:=.pointer (some ⟨Wg,4,none⟩)) hK rfl rfl (base_ne _) (fun w hw=>?_) ?_
     . obtain ⟨x,hx⟩:=hcell4 w hw
       have hcv:=run_convert_to_unsafe (P:=P) H.underlying_tPU32 H.underlying_tUP H.room_tU32 hx
       have hce:=fun es=>events_convert_to_unsafe (P:=P) H.underlying_tPU32 H.underlying_tUP H.room_tU32 hx es
       refine ⟨?_,?_⟩
       . go_simp
       . simp [go_sem,hce]
     walk_nrm
     refine yek _ ?_
     refine wyQ_write rfl (fun w=>stepG_markAt .write (by simp) rfl rfl (base_ne _) rfl H.f_raceWrite (x_raceWrite_n L) (x_raceWrite_b L) (x_raceWrite_x L) (x_raceWrite_f L) (by simp [Act.eval])) ?_
     refine key _ ?_
     walk_nrm
     refine wB110 ?_
     refine yek _ ?_
     clear hK key yek K
     refine wyQ_sem hE rfl rfl (base_ne _) rfl H.f_semacquire (x_semacquire_n L) (x_semacquire_b L) (x_semacquire_x L) (x_semacquire_f L) (by simp [Act.eval]) ?_
     obtain ⟨K,hK,key,yek⟩:=kK (J:=fun g=>To P Post ⟨Z,Kc,⟨Wg,3,none⟩,⟨Wg,4,none⟩⟩ (Las P ⟨Z,Kc,⟨Wg,3,none⟩,⟨Wg,4,none⟩⟩ 3) 0 1 0 n role0 V g) (mu_to hE)
     refine key _ ?_
     walk_nrm
     refine wB110 ?_
     refine yek _ ?_
     clear hK key yek K
     refine to_load_at hE rfl rfl (base_ne _) rfl H.f_loadU64 (x_loadU64_n L) (x_loadU64_b L) (x_loadU64_x L) (x_loadU64_f L) (by simp [Act.eval]) (fun v' role₃ hv' hle₃ hcount₃ h03=>?_)
     obtain rfl : v' = 0:=by have:=sum_le (counts_le hle₃) n; rw [counts0] at this; omega
     refine To.all_quit (by omega) ?_
     simp only [two32,Int.natCast_zero,Int.zero_mul,Int.add_zero,Int.ofNat_zero,Int.cast_ofNat_Int]
     obtain ⟨K,hK,key,yek⟩:=kK (J:=fun g=>To P Post ⟨Z,Kc,⟨Wg,3,none⟩,⟨Wg,4,none⟩⟩ (Las P ⟨Z,Kc,⟨Wg,3,none⟩,⟨Wg,4,none⟩⟩ 3) 0 1 0 n role0 V g) (mu_to hE)
     refine key _ ?_
     walk_nrm
     refine wB110 ?_
     refine yek _ ?_
     clear hK key yek K
     refine to_enable_op hE rfl (fun w=>stepG_mark0 .enable (by simp) rfl rfl (base_ne _) rfl H.f_enable (x_enable_n L) (x_enable_b L) (x_enable_x L) (x_enable_f L)) ?_
     obtain ⟨K,hK,key,yek⟩:=kK (J:=fun g=>To P Post ⟨Z,Kc,⟨Wg,3,none⟩,⟨Wg,4,none⟩⟩ (Las P ⟨Z,Kc,⟨Wg,3,none⟩,⟨Wg,4,none⟩⟩ 3) 0 0 0 n role0 V g) (mu_to hE)
     refine key _ ?_
     walk_nrm
     refine wB110 ?_
     refine mu_valR (v:=.pointer (some ⟨Wg,3,none⟩)) hK rfl rfl (base_ne _) (fun w hw=>?_) ?_
     . obtain ⟨x,hx⟩:=hcell3 w hw
       have hcv:=run_convert_to_unsafe (P:=P) H.underlying_tWgP H.underlying_tUP H.room_tWg hx
       have hce:=fun es=>events_convert_to_unsafe (P:=P) H.underlying_tWgP H.underlying_tUP H.room_tWg hx es
       refine ⟨?_,?_⟩
       . go_simp
       . simp [go_sem,hce]
     walk_nrm
     refine yek _ ?_
     clear hK key yek K
     refine to_acquire hE rfl (fun w=>stepG_markAt .acquire (by simp) rfl rfl (base_ne _) rfl H.f_acquire (x_acquire_n L) (x_acquire_b L) (x_acquire_x L) (x_acquire_f L) (by simp [Act.eval])) ?_
     obtain ⟨K,hK,key,yek⟩:=kK (J:=fun g=>To P Post ⟨Z,Kc,⟨Wg,3,none⟩,⟨Wg,4,none⟩⟩ (Las P ⟨Z,Kc,⟨Wg,3,none⟩,⟨Wg,4,none⟩⟩ 3) 0 0 0 n role0 V g) (mu_to hE)
     refine key _ ?_
     walk_nrm
     refine wB110 ?_
     refine mu_leave0 hK rfl rfl H.f_wait rfl ?_
     refine yek _ ?_
     exact K0
   . have hltQ : sumTo n (counts roleY) < m:=by
       have h1:=sum_le (counts_le hleY) n
       have h2:=sum_le (counts_le hle) n
       omega
     obtain ⟨K,hK,key,yek⟩:=kK (J:=fun g=>To P Post ⟨Z,Kc,⟨Wg,3,none⟩,⟨Wg,4,none⟩⟩ (Las P ⟨Z,Kc,⟨Wg,3,none⟩,⟨Wg,4,none⟩⟩ 3) 0 1 0 n roleY V g) (mu_to hE)
     refine key _ ?_
     walk_nrm
     repeat (first|(with_reducible first|refine mu_seq hK ?_|refine mu_skip hK ?_|(refine mu_region_end hK ?_;try subst hkk)|refine mu_loop hK ?_|apply hK.ib|refine mu_inLoop hK ?_|apply hK.rt|apply hK.nd)|refine hK.ex rfl ?_|(with_reducible refine hK.rg fun kk hkk=>?_;simp only [ix,Nat.reduceAdd])|(with_reducible refine mu_cf hK ?_ ?_;(· first|(walk_nrm;done)|(simp [Act.eval];done)|(simp [Act.eval];omega)))|(with_reducible refine mu_ct hK ?_ ?_;(· first|(walk_nrm;done)|(simp [Act.eval];done)|(simp [Act.eval];omega)))|(refine hK.uw rfl rfl ?_;walk_nrm)|(refine mu_valB hK rfl rfl rfl (fun J hJ=>?_) (fun w=>by simp [go_sem, *]);go_simp;with_reducible refine hJ _ ?_;clear hJ J;walk_nrm;try w_num)|(refine mu_callB hK rfl rfl rfl H.f_uAdd (nm_uAdd L) rfl ?_;walk_nrmf uAddFn)|(refine mu_callB hK rfl rfl rfl H.f_uLoad (nm_uLoad L) rfl ?_;walk_nrmf uLoadFn)|(refine mu_callB hK rfl rfl rfl H.f_uStore (nm_uStore L) rfl ?_;walk_nrmf uStoreFn)|(refine mu_callB hK rfl rfl rfl H.f_uCas (nm_uCas L) rfl ?_;walk_nrmf uCasFn)|(refine mu_callB hK rfl rfl rfl H.f_add (nm_add L) rfl ?_;walk_nrmf addFn)|(refine mu_leave1 hK rfl rfl H.f_uAdd rfl ?_;walk_nrm)|(refine mu_leave1 hK rfl rfl H.f_uLoad rfl ?_;walk_nrm)|(refine mu_leave1 hK rfl rfl H.f_uCas rfl ?_;walk_nrm)|(refine mu_leave0 hK rfl rfl H.f_uStore rfl ?_;walk_nrm)|(refine mu_deferB hK rfl rfl rfl ?_;walk_nrm)|(refine mu_entryB hK (.bool false) rfl rfl rfl H.f_inBubble (x_inBubble_n L) (x_inBubble_b L) (x_inBubble_x L) (x_inBubble_f L) ?_;walk_nrm))
     refine yek _ ?_
     clear hK key yek K
     exact hback roleY _ (hle.trans hleY) hltQ (by simp) (by simp)
variable {P : Program} {L : WgLink}
variable {Post : Value -> World -> Prop} {n : Nat} {role : Nat -> Role} {V : World}
theorem waitT (H : WgLib P L) {E : Env} (hE : EnvOk E) {Wg : Nat} (hst : E.st = ⟨Wg,3,none⟩) (hsm : E.sm = ⟨Wg,4,none⟩) (hns : ∀ x,isSeat (role x) = false) {bQ : Frame} {aQ : Act} {opsQ : Array Oper} {iQ : Nat} {restQ : List Nat} {kQ : List Item} {cs : List Frame} (K0 : To P Post E (Las P E 3) 0 0 0 n role0 V (G (bQ.at (aQ.put ((opsQ[iQ]?).bind (·.dst)) (.tuple #[])) (.inRegion opsQ restQ :: kQ)) cs)) :
   To P Post E (Las P E 3) 0 0 0 n role V (G ((base L.wait).at ⟨#[.pointer (some ⟨Wg,3,none⟩),undef,undef,undef,undef,undef,undef,undef,undef,undef,undef,undef,undef,undef,undef,undef,undef,undef,undef,undef,undef,undef,undef,undef,undef,undef,undef,undef,undef,undef,undef,undef,undef,undef,undef,undef,undef,undef,undef,undef,undef,undef,undef,undef,undef,undef,undef,undef,undef,undef,undef,undef,undef,undef,undef,undef,undef,undef,undef,undef,undef,undef,undef,undef,undef,undef,undef,undef,undef,undef,undef,undef,undef,undef,undef,undef,undef,undef,undef,undef,undef,undef,undef,undef],[]⟩ [.code ((waitFn L).body.getD .skip)]) (bQ.at aQ (.inRegion opsQ (iQ :: restQ) :: kQ) :: cs)):=by
 have hh:=fun T h1 h2=>wait_head (P:=P) (L:=L) H hE hst hsm K0 (sumTo n (counts role)) role T hns (Nat.le_refl _) h1 h2
 obtain ⟨Z,Kc,st,sm⟩:=E
 simp only at hst hsm
 subst hst hsm
 simp only [L7,body_wait,waitFn,Option.getD_some] at hh ⊢
 obtain ⟨K,hK,key,yek⟩:=kK (J:=fun g=>To P Post ⟨Z,Kc,⟨Wg,3,none⟩,⟨Wg,4,none⟩⟩ (Las P ⟨Z,Kc,⟨Wg,3,none⟩,⟨Wg,4,none⟩⟩ 3) 0 0 0 n role V g) (mu_to hE)
 refine key _ ?_
 refine wB110 ?_
 refine yek _ ?_
 clear hK key yek K
 refine to_disable (dh:=0) hE rfl (fun w=>stepG_mark0 .disable (by simp) rfl rfl (base_ne _) rfl H.f_disable (x_disable_n L) (x_disable_b L) (x_disable_x L) (x_disable_f L)) ?_
 obtain ⟨K,hK,key,yek⟩:=kK (J:=fun g=>To P Post ⟨Z,Kc,⟨Wg,3,none⟩,⟨Wg,4,none⟩⟩ (Las P ⟨Z,Kc,⟨Wg,3,none⟩,⟨Wg,4,none⟩⟩ 3) 0 1 0 n role V g) (mu_to hE)
 refine key _ ?_
 walk_nrm
 refine mu_region_end hK ?_
 try subst hkk
 refine mu_block hK ?_
 refine mu_loop hK ?_
 refine yek _ ?_
 exact hh _ (by simp) (by simp)
open Go Go.Conc Go.Proofs Go.Conc.Lib Go.ConcR.Gen
open Go.ConcN (sumTo upd sumTo_upd upd_ne upd_same)
section
variable {C : Cw} {E : Env} {V : World} {ended : Bool} {st : Nat -> Int} {Post : Value -> World -> Prop} {Lst : Nat -> Nat -> Goroutine -> Prop} {h pend N : Nat} {role : Nat -> Role}
def ResumeM (v' : Value) (cs : List Frame) (r : Goroutine) : Prop :=
 ∀ (K : Goroutine -> Prop) (R : World -> Prop),Mu Try.prog R K -> ∀ (v : Value) (bQ : Frame) (aQ : Act) (opsQ : Array Oper) (iQ : Nat) (restQ : List Nat) (kQ : List Item) (cs' : List Frame),cs = bQ.at aQ (.inRegion opsQ (iQ :: restQ) :: kQ) :: cs' ->
   K (G (bQ.at (aQ.put ((opsQ[iQ]?).bind (·.dst)) v') (.inRegion opsQ restQ :: kQ)) cs') -> K (Go.Conc.served r (recvd false v true))
theorem wB111 {A : Prop} {k0 : List Item} {B : List Item -> Prop} (h : ∀ kk,kk = k0 -> B kk) (w : Hd (∀ kk,kk = k0 -> B kk) -> A:=by
 intro h
 repeat (first|(with_reducible first|apply hK.sq|apply hK.sk|(apply hK.re;try rw [hkk])|apply hK.bl|refine mu_loop hK ?_|apply hK.ib|refine mu_inLoop hK ?_|apply hK.rt|apply hK.nd)|refine hK.ex rfl ?_|(with_reducible refine hK.rg fun kk hkk=>?_;simp only [ix,Nat.reduceAdd])|(with_reducible first|refine hK.cf ?_|refine hK.ct ?_)|(refine hK.uw rfl rfl ?_;walk_nrm)|(refine hV.vl rfl rfl fun J hJ=>?_;go_simp;with_reducible refine hJ _ ?_;clear hJ J;walk_nrm))
 first | exact h.h kk hkk | (obtain ⟨k2,e⟩ : ∃ x,x = kk:=⟨_,rfl⟩;rw [← e];exact h.h k2 (e.trans hkk)) | (obtain ⟨kk,hkk⟩ : ∃ kk : List Item,kk = []:=⟨_,rfl⟩;exact h.h kk hkk)) : A:=w ⟨h⟩
theorem step_idle (hO : CwOk E C) (hn : norm V = V) (H : CwAt C ended st V) {i : Nat} (hi : i < C.n) (hs : st i = 2 ∨ st i = 3) {bQ : Frame} {aQ : Act} {opsQ : Array Oper} {iQ : Nat} {restQ : List Nat} {kQ : List Item} {cs : List Frame} (K0 : To Try.prog Post E Lst 0 0 pend N role V (G (bQ.at (aQ.put ((opsQ[iQ]?).bind (·.dst)) (.bool false)) (.inRegion opsQ restQ :: kQ)) cs)) : To Try.prog Post E Lst 0 0 pend N role V (G (Frame.enter Try.prog 108 #[C.tp i] .normal) (bQ.at aQ (.inRegion opsQ (iQ :: restQ) :: kQ) :: cs)):=by
 obtain ⟨s,hs',hs⟩ : ∃ s,(s = 2 ∨ s = 3) /\ st i = s:=⟨_,hs,rfl⟩
 have e5 : ∀ τ,(re V τ 0).cell? ⟨C.tb i,4,none⟩ = some (.int .i64 s):=fun τ=>by rw [re_cell,H.t4 hi,hs]
 have e7 : ∀ τ,(re V τ 0).cell? ⟨C.tb i,3,none⟩ = some (.chan (some (C.ch i))):=fun τ=>H.t3 hi
 have e1 : ∀ τ,(re V τ 0).cell? ⟨C.tb i,1,none⟩ = some (.pointer (some ⟨C.cb,0,none⟩)):=fun τ=>H.t1 hi
 rw [enter_at (P:=Try.prog) _ Try.func108 rfl]
 simp only [Try.f108,Cw.tp]
 walk_nrm
 rcases hs' with rfl | rfl
 . skip
   obtain ⟨K,hK,hV,hD,key,yek⟩:=kKVD (L:=Lone) (J:=fun g=>To Try.prog Post E Lst 0 0 pend N role V g) (mu_to hO.ok) (muv_to hO.ok hn) (mud_to hO.ok)
   refine key _ ?_
   refine wB111 fun kk hkk=>?_
   refine mu_leave1 hK rfl rfl Try.func108 rfl ?_
   walk_nrm
   exact yek _ K0
 . skip
   obtain ⟨K,hK,hV,hD,key,yek⟩:=kKVD (L:=Lone) (J:=fun g=>To Try.prog Post E Lst 0 0 pend N role V g) (mu_to hO.ok) (muv_to hO.ok hn) (mud_to hO.ok)
   refine key _ ?_
   refine wB111 fun kk hkk=>?_
   refine mu_leave1 hK rfl rfl Try.func108 rfl ?_
   walk_nrm
   exact yek _ K0
theorem wB112 {A : Prop} {k0 : List Item} {B : List Item -> Prop} (h : ∀ kk,kk = k0 -> B kk) (w : Hd (∀ kk,kk = k0 -> B kk) -> A:=by
 intro h
 repeat (first|(with_reducible first|apply hK.sq|apply hK.sk|(apply hK.re;try rw [hkk])|apply hK.bl|refine mu_loop hK ?_|apply hK.ib|refine mu_inLoop hK ?_|apply hK.rt|apply hK.nd)|refine hK.ex rfl ?_|(with_reducible refine hK.rg fun kk hkk=>?_;simp only [ix,Nat.reduceAdd])|(with_reducible first|refine hK.cf ?_|refine hK.ct ?_)|(refine hK.uw rfl rfl ?_;walk_nrm)|(refine mu_valn hK rfl rfl rfl (by decide) (fun J hJ=>?_) (fun w=>by first|(simp [go_sem, *];done)|(simp [go_sem,Instr.makeInterface, *];done));go_simp;with_reducible refine hJ _ ?_;clear hJ J;walk_nrm))
 first | exact h.h kk hkk | (obtain ⟨k2,e⟩ : ∃ x,x = kk:=⟨_,rfl⟩;rw [← e];exact h.h k2 (e.trans hkk)) | (obtain ⟨kk,hkk⟩ : ∃ kk : List Item,kk = []:=⟨_,rfl⟩;exact h.h kk hkk)) : A:=w ⟨h⟩
theorem step_ready (hO : CwOk E C) (hn : norm V = V) (H : CwAt C ended st V) {i : Nat} (hi : i < C.n) (hs : st i = 1) {j : Nat} {zj : Value} {rj : Goroutine} (hj0 : j ≠ 0) (hjN : j < N) (hj : role j = .seat (C.ch i) zj rj) (hfree : ∀ x z r,role x ≠ .seat C.bk z r) {bQ : Frame} {aQ : Act} {opsQ : Array Oper} {iQ : Nat} {restQ : List Nat} {kQ : List Item} {cs : List Frame}
   (K0 : ∀ r,ResumeM (.bool true) (bQ.at aQ (.inRegion opsQ (iQ :: restQ) :: kQ) :: cs) r -> To Try.prog Post E Lst j 0 pend N (upd (upd role 0 (.seat C.bk (.int .i64 0) r)) j .fin) V (Go.Conc.served rj (recvd false (.bool true) true))) : To Try.prog Post E Lst 0 0 pend N role V (G (Frame.enter Try.prog 108 #[C.tp i] .normal) (bQ.at aQ (.inRegion opsQ (iQ :: restQ) :: kQ) :: cs)):=by
 generalize hss : (1 : Int) = s at hs
 have e5 : ∀ τ,(re V τ 0).cell? ⟨C.tb i,4,none⟩ = some (.int .i64 s):=fun τ=>by rw [re_cell,H.t4 hi,hs]
 have e7 : ∀ τ,(re V τ 0).cell? ⟨C.tb i,3,none⟩ = some (.chan (some (C.ch i))):=fun τ=>H.t3 hi
 have e1 : ∀ τ,(re V τ 0).cell? ⟨C.tb i,1,none⟩ = some (.pointer (some ⟨C.cb,0,none⟩)):=fun τ=>H.t1 hi
 subst hss
 rw [enter_at (P:=Try.prog) _ Try.func108 rfl]
 simp only [Try.f108,Cw.tp]
 walk_nrm
 obtain ⟨K,hK,hV,hD,key,yek⟩:=kKVD (L:=Lone) (J:=fun g=>To Try.prog Post E Lst 0 0 pend N role V g) (mu_to hO.ok) (muv_to hO.ok hn) (mud_to hO.ok)
 refine key _ ?_
 refine wB111 fun kk hkk=>?_
 refine yek _ ?_
 clear hK hV hD key yek K
 refine To.giveSeat hO.ok (v:=.bool true) hj0 hjN hj rfl rfl (by decide) rfl rfl rfl hO.bk hfree ?_ K0
 obtain ⟨K,hK,key,yek⟩:=kK (J:=WayQ Try.prog true E C.bk (.int .i64 0) (ResumeM (.bool true) (bQ.at aQ (.inRegion opsQ (iQ :: restQ) :: kQ) :: cs))) mu_wayQ
 refine key _ ?_
 walk_nrm
 refine wB112 fun kk hkk=>?_
 refine yek _ ?_
 refine way_load (ad:=⟨C.tb i,1,none⟩) (v:=.pointer (some ⟨C.cb,0,none⟩)) (hO.k1 i hi) rfl rfl (by decide) (fun w hw=>⟨?_,?_⟩) ?_
 . go_simp
 . (simp [listed,go_sem,seen,hw,Try.func108,Try.f108,base,baseD]; try rfl)
 refine key _ ?_
 walk_nrm
 refine wB112 fun kk hkk=>?_
 refine yek _ ?_
 refine way_load (ad:=⟨C.cb,1,none⟩) (v:=.chan (some C.bk)) hO.kb rfl rfl (by decide) (fun w hw=>⟨?_,?_⟩) ?_
 . go_simp
 . (simp [listed,go_sem,seen,hw,Try.func108,Try.f108,base,baseD]; try rfl)
 refine key _ ?_
 walk_nrm
 refine wB112 fun kk hkk=>?_
 refine yek _ ?_
 clear hK key yek K
 refine wayQ_recv rfl rfl (by decide) (fun w=>by go_simp; try rfl) (fun w=>by simp [go_sem]) ?_
 intro K R hK v bY aY opsY iY restY kY csQ e hT
 injection e with e1 e2
 rw [served_at]
 walk_nrm
 rw [e1,e2]
 refine wB112 fun kk hkk=>?_
 refine mu_leave1 hK rfl rfl Try.func108 rfl ?_
 walk_nrm
 exact hT
end
end Go.Proofs.Ytibcdikfbhmheaa
