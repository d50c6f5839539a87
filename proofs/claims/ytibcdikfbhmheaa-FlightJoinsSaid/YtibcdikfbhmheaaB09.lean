import Derived.Test.YtibcdikfbhmheaaB06
import Derived.Conc.WgArith
import Derived.Test.YtibcdikfbhmheaaB07
set_option linter.unusedSimpArgs false
set_option linter.unusedVariables false
set_option maxRecDepth 100000
set_option maxHeartbeats 4000000
namespace Go.Proofs.Ytibcdikfbhmheaa
open Go Go.Conc Go.Conc.Lib Go.ConcR.Gen
open Go.ConcN (st_flag st_waiters)
variable {P : Program} {L : WgLink}
theorem mayWake_call {P : Program} {b : Frame} {a : Act} {ops : Array Oper} {i : Nat} {rest : List Nat} {k : List Item} {cs : List Frame} {o : Oper} {f : FuncId} {fn : Func} {xs : Array Operand} {ats : Array TypeId}
   (ho : ops[i]? = some o) (hop : o.op = .call { callee:=.value (.func f),args:=xs,argTypes:=ats }) (hf : P.funcs[f]? = some fn) (hb : fn.body.isNone = true) : mayWake P (G (b.at a (.inRegion ops (i :: rest) :: k)) cs) = true:=by
 have h2 : fn.body = none:=by simpa using hb
 have ef : (b.at a (.inRegion ops (i :: rest) :: k)).eval (.func f) = .func (.func f) #[] #[]:=rfl
 simp [mayWake,G,Frame.at,ho,hop] at ef ⊢
 simp [ef,hf,h2]
theorem quits_enable {b : Frame} {a : Act} {ds : List Deferred} {todo : List Item} {cs : List Frame} {f : FuncId} {fn : Func} (hd : a.defers = dcall f #[] :: ds) (hf : P.funcs[f]? = some fn) (hname : (fn.name == "runtime.NumGoroutine") = false) (hb : fn.body.isNone = true) (hn : Extern.findNext fn = none)
   (he : Extern.find fn = some (fun _=>do mark .enable; pure Extern.Race.none_)) (h : ∃ n,QuitsD P n 0 (G { b.at ⟨a.tmps,ds⟩ todo with mode:=.returning } cs)) : ∃ n,QuitsD P n 1 (G { b.at a todo with mode:=.returning } cs) :=
 let ⟨n,h⟩:=h; ⟨n + 1,QuitsD.unwind_mark .enable rfl (by simp) hd hf hname hb hn he h⟩
theorem fin_add_at {E : Env} {Lst : Nat -> Nat -> Goroutine -> Prop} {d : Nat} (hE : EnvOk E) {b : Frame} {a : Act} {kk : List Item} {cs : List Frame} {f : FuncId} {fn : Func} {ops : Array Oper} {i : Nat} {rest : List Nat} {o : Oper} {ats : Array TypeId} {x y : Operand} (ho : ops[i]? = some o) (hw : Region.wanted o (yielded ops a.tmps) = true) (hk : b.kind ≠ .early) (hop : o.op = .call { callee:=.value (.func f),args:=#[x,y],argTypes:=ats })
   (hf : P.funcs[f]? = some fn) (hname : (fn.name == "runtime.NumGoroutine") = false) (hb : fn.body.isNone = true) (hn : Extern.findNext fn = none)
   (he : Extern.find fn = some (Extern.Atomic.update (Op.intArith .add) .u64 true)) (hx : a.eval x = .pointer (some E.st)) (hy : a.eval y = .int .u64 18446744069414584320)
   (hq : ∀ v wt : Nat,v < 2147483647 -> wt <= 1 -> ¬ (v = 0 /\ wt = 1) -> ∃ n,QuitsD P n (d + 1) (G (b.at (a.put o.dst (.int .u64 (v * two32 + wt))) (.inRegion ops rest :: kk)) cs)) (hl : ∃ m,Lst m (d + 1) (G (b.at (a.put o.dst (.int .u64 1)) (.inRegion ops rest :: kk)) cs)) :
   ∃ n,Fin P E Lst n (d + 1) (G (b.at a (.inRegion ops (i :: rest) :: kk)) cs) :=
 fin_add (g':=fun S=>G (b.at (a.put o.dst (.int .u64 S)) (.inRegion ops rest :: kk)) cs) rfl (fun w S S' hK hc e=>by
   subst e
   exact stepG_add_atomic ho hw hk hop hf hname hb hn .u64 he hx hy hc (thaw_st hE hK)) hq hl
theorem wB090 {A B : Prop} (h : B) (w : Hd B -> A:=by
 intro h
 repeat (first|(with_reducible first|apply hK.sq|apply hK.sk|(apply hK.re;try subst hkk)|apply hK.bl|refine mu_loop hK ?_|apply hK.ib|refine mu_inLoop hK ?_|apply hK.rt|apply hK.nd)|refine hK.ex rfl ?_|(with_reducible refine hK.rg fun kk hkk=>?_;simp only [ix,Nat.reduceAdd])|(with_reducible refine mu_cf hK ?_ ?_;(· first|(walk_nrm;done)|(simp [Act.eval];done)|(simp [Act.eval];omega)))|(with_reducible refine mu_ct hK ?_ ?_;(· first|(walk_nrm;done)|(simp [Act.eval];done)|(simp [Act.eval];omega)))|(refine hK.uw rfl rfl ?_;walk_nrm)|(refine mu_valB hK rfl rfl rfl (fun J hJ=>?_) (fun w=>by simp [go_sem, *]);go_simp;with_reducible refine hJ _ ?_;clear hJ J;walk_nrm;try w_num)|(refine mu_callB hK rfl rfl rfl H.f_uAdd (nm_uAdd L) rfl ?_;walk_nrmf uAddFn)|(refine mu_callB hK rfl rfl rfl H.f_uLoad (nm_uLoad L) rfl ?_;walk_nrmf uLoadFn)|(refine mu_callB hK rfl rfl rfl H.f_uStore (nm_uStore L) rfl ?_;walk_nrmf uStoreFn)|(refine mu_callB hK rfl rfl rfl H.f_uCas (nm_uCas L) rfl ?_;walk_nrmf uCasFn)|(refine mu_callB hK rfl rfl rfl H.f_add (nm_add L) rfl ?_;walk_nrmf addFn)|(refine mu_leave1 hK rfl rfl H.f_uAdd rfl ?_;walk_nrm)|(refine mu_leave1 hK rfl rfl H.f_uLoad rfl ?_;walk_nrm)|(refine mu_leave1 hK rfl rfl H.f_uCas rfl ?_;walk_nrm)|(refine mu_leave0 hK rfl rfl H.f_uStore rfl ?_;walk_nrm)|(refine mu_deferB hK rfl rfl rfl ?_;walk_nrm)|(refine mu_entryB hK (.bool false) rfl rfl rfl H.f_inBubble (x_inBubble_n L) (x_inBubble_b L) (x_inBubble_x L) (x_inBubble_f L) ?_;walk_nrm))
 repeat subst hkk
 exact h.h) : A:=w ⟨h⟩
set_option maxHeartbeats 8000000 in
theorem addF (H : WgLib P L) {E : Env} (hE : EnvOk E) {Wg : Nat} (hst : E.st = ⟨Wg,3,none⟩) (hsm : E.sm = ⟨Wg,4,none⟩) {bQ : Frame} {aQ : Act} {opsQ : Array Oper} {iQ : Nat} {restQ : List Nat} {kQ : List Item} {cs : List Frame} (hT : ∃ n,QuitsD P n 0 (G (bQ.at (aQ.put ((opsQ[iQ]?).bind (·.dst)) (.tuple #[])) (.inRegion opsQ restQ :: kQ)) cs)) :
   ∃ n,Fin P E (Las P E 3) n 0 (G ((base L.add).at ⟨#[.pointer (some ⟨Wg,3,none⟩),.int .i64 (-1),undef,undef,undef,undef,undef,undef,undef,undef,undef,undef,undef,undef,undef,undef,undef,undef,undef,undef,undef,undef,undef,undef,undef,undef,undef,undef,undef,undef,undef,undef,undef,undef,undef,undef,undef,undef,undef,undef,undef,undef,undef,undef,undef,undef,undef,undef,undef,undef,undef,undef,undef,undef,undef,undef,undef,undef,undef,undef,undef,undef,undef,undef,undef,undef,undef,undef,undef,undef,undef,undef,undef,undef,undef,undef,undef,undef,undef,undef,undef,undef,undef,undef,undef,undef,undef,undef,undef,undef,undef,undef,undef,undef,undef,undef,undef,undef,undef,undef,undef,undef,undef,undef,undef,undef,undef,undef,undef,undef,undef,undef,undef,undef,undef,undef,undef],[]⟩ [.code ((addFn L).body.getD .skip)]) (bQ.at aQ (.inRegion opsQ (iQ :: restQ) :: kQ) :: cs)):=by
 obtain ⟨Z,Kc,st,sm⟩:=E
 simp only at hst hsm
 subst hst hsm
 have hcell : ∀ w,SW P ⟨Z,Kc,⟨Wg,3,none⟩,⟨Wg,4,none⟩⟩ w -> ∃ v,w.cell? ⟨Wg,3,none⟩ = some v:=fun w hw=>let ⟨_,_,x,hx⟩:=hw; ⟨_,hx⟩
 lib_facts
 simp only [addFn,Option.getD_some]
 obtain ⟨K,hK,key,yek⟩:=kK (J:=fun g=>∃ n,Fin P ⟨Z,Kc,⟨Wg,3,none⟩,⟨Wg,4,none⟩⟩ (Las P ⟨Z,Kc,⟨Wg,3,none⟩,⟨Wg,4,none⟩⟩ 3) n 0 g) mu_fin
 refine key _ ?_
 refine wB090 ?_
 refine mu_valR (v:=.pointer (some ⟨Wg,3,none⟩)) hK rfl rfl (base_ne _) (fun w hw=>?_) ?_
 . obtain ⟨x,hx⟩:=hcell w hw
   have hcv:=run_convert_to_unsafe (P:=P) H.underlying_tWgP H.underlying_tUP H.room_tWg hx
   have hce:=fun es=>events_convert_to_unsafe (P:=P) H.underlying_tWgP H.underlying_tUP H.room_tWg hx es
   refine ⟨?_,?_⟩
   . go_simp
   . simp [go_sem,hce]
 walk_nrm
 refine yek _ ?_
 refine fin_rel rfl (fun w hw=>stepG_markAt .releaseMerge (by simp) rfl rfl (base_ne _) rfl H.f_relMerge (x_relMerge_n L) (x_relMerge_b L) (x_relMerge_x L) (x_relMerge_f L) (by simp [Act.eval])) ?_
 refine key _ ?_
 walk_nrm
 refine wB090 ?_
 refine yek _ ?_
 clear hK key yek K
 refine fin_dis rfl (fun w hw=>stepG_mark0 .disable (by simp) rfl rfl (base_ne _) rfl H.f_disable (x_disable_n L) (x_disable_b L) (x_disable_x L) (x_disable_f L)) ?_
 obtain ⟨K,hK,key,yek⟩:=kK (J:=fun g=>∃ n,Fin P ⟨Z,Kc,⟨Wg,3,none⟩,⟨Wg,4,none⟩⟩ (Las P ⟨Z,Kc,⟨Wg,3,none⟩,⟨Wg,4,none⟩⟩ 3) n 1 g) mu_fin
 refine key _ ?_
 walk_nrm
 refine wB090 ?_
 refine yek _ ?_
 clear hK key yek K
 refine fin_add_at (d:=0) hE rfl rfl (base_ne _) rfl H.f_addU64 (x_addU64_n L) (x_addU64_b L) (x_addU64_x L) (x_addU64_f L) (by simp [Act.eval]) (by simp [Act.eval]) (fun v wt hv hwt hne=>?_) ?_
 . simp only [two32]
   rcases Nat.eq_zero_or_pos v with rfl | hvp
   . obtain rfl : wt = 0:=by omega
     simp only [Int.natCast_zero,Int.zero_mul,Int.add_zero,Int.ofNat_zero,Int.cast_ofNat_Int]
     obtain ⟨K,hK,key,yek⟩:=kK (J:=fun g=>∃ n,QuitsD P n 1 g) mu_quits
     refine key _ ?_
     walk_nrm
     refine wB090 ?_
     refine yek _ ?_
     clear hK key yek K
     refine quits_enable rfl H.f_enable (x_enable_n L) (x_enable_b L) (x_enable_x L) (x_enable_f L) ?_
     refine mu_leave0 (K:=fun g=>∃ n,QuitsD P n 0 g) mu_quits rfl rfl H.f_add rfl ?_
     exact hT
   . obtain rfl | rfl : wt = 0 ∨ wt = 1:=by omega
     . obtain ⟨S,hS⟩ : ∃ S : Int,S = (v : Int) * 4294967296 + ((0 : Nat) : Int):=⟨_,rfl⟩
       obtain ⟨W,hW⟩ : ∃ W : Int,W = (v : Int):=⟨_,rfl⟩
       rw [← hS]
       have a1 : S / 4294967296 = W:=by rw [hS,hW]; omega
       have b1 : bits .and .u64 S 2147483648 = 0:=by rw [hS]; exact st_flag v 0 (by omega) (by omega)
       have b2 : bits .and .u64 S 2147483647 = 0:=by rw [hS]; exact st_waiters v 0 (by omega) (by omega)
       have c1 : IntKind.i32.wrap W = W:=by rw [IntKind.wrap_i32]; omega
       have hW1 : 0 < W:=by omega
       have hW2 : W < 2147483648:=by omega
       have q3 : decide (W < 0) = false:=decide_eq_false (by omega)
       have q4 : decide (0 < W) = true:=decide_eq_true (by omega)
       have q5 : (W == 0) = false:=by simp; omega
       have q6 : decide (W = 0) = false:=decide_eq_false (by omega)
       clear hS hW hne hvp hv hwt
       obtain ⟨K,hK,key,yek⟩:=kK (J:=fun g=>∃ n,QuitsD P n 1 g) mu_quits
       refine key _ ?_
       walk_nrm
       refine wB090 ?_
       refine yek _ ?_
       clear hK key yek K
       refine quits_enable rfl H.f_enable (x_enable_n L) (x_enable_b L) (x_enable_x L) (x_enable_f L) ?_
       refine mu_leave0 (K:=fun g=>∃ n,QuitsD P n 0 g) mu_quits rfl rfl H.f_add rfl ?_
       exact hT
     . obtain ⟨S,hS⟩ : ∃ S : Int,S = (v : Int) * 4294967296 + ((1 : Nat) : Int):=⟨_,rfl⟩
       obtain ⟨W,hW⟩ : ∃ W : Int,W = (v : Int):=⟨_,rfl⟩
       rw [← hS]
       have a1 : S / 4294967296 = W:=by rw [hS,hW]; omega
       have b1 : bits .and .u64 S 2147483648 = 0:=by rw [hS]; exact st_flag v 1 (by omega) (by omega)
       have b2 : bits .and .u64 S 2147483647 = 1:=by rw [hS]; exact st_waiters v 1 (by omega) (by omega)
       have c1 : IntKind.i32.wrap W = W:=by rw [IntKind.wrap_i32]; omega
       have hW1 : 0 < W:=by omega
       have hW2 : W < 2147483648:=by omega
       have q3 : decide (W < 0) = false:=decide_eq_false (by omega)
       have q4 : decide (0 < W) = true:=decide_eq_true (by omega)
       have q5 : (W == 0) = false:=by simp; omega
       have q6 : decide (W = 0) = false:=decide_eq_false (by omega)
       clear hS hW hne hvp hv hwt
       obtain ⟨K,hK,key,yek⟩:=kK (J:=fun g=>∃ n,QuitsD P n 1 g) mu_quits
       refine key _ ?_
       walk_nrm
       refine wB090 ?_
       refine yek _ ?_
       clear hK key yek K
       refine quits_enable rfl H.f_enable (x_enable_n L) (x_enable_b L) (x_enable_x L) (x_enable_f L) ?_
       refine mu_leave0 (K:=fun g=>∃ n,QuitsD P n 0 g) mu_quits rfl rfl H.f_add rfl ?_
       exact hT
 . skip
   obtain ⟨K,hK,key,yek⟩:=kK (J:=fun g=>∃ n,Las P ⟨Z,Kc,⟨Wg,3,none⟩,⟨Wg,4,none⟩⟩ 3 n 1 g) mu_las
   refine key _ ?_
   walk_nrm
   refine wB090 ?_
   refine yek _ ?_
   clear hK key yek K
   refine las_load (d:=0) rfl (fun w hw hc=>stepG_load_atomic (v:=1) rfl rfl (base_ne _) rfl H.f_loadU64 (x_loadU64_n L) (x_loadU64_b L) (x_loadU64_x L) .u64 (x_loadU64_f L) rfl hc) ?_
   obtain ⟨K,hK,key,yek⟩:=kK (J:=fun g=>∃ n,Las P ⟨Z,Kc,⟨Wg,3,none⟩,⟨Wg,4,none⟩⟩ 2 n 1 g) mu_las
   refine key _ ?_
   walk_nrm
   refine wB090 ?_
   refine yek _ ?_
   clear hK key yek K
   refine las_store (d:=0) rfl (fun w hw hc=>stepG_store_atomic rfl rfl (base_ne _) rfl H.f_storeU64 (x_storeU64_n L) (x_storeU64_b L) (x_storeU64_x L) (x_storeU64_f L) rfl rfl hc (thaw_st hE hw)) ?_
   obtain ⟨K,hK,key,yek⟩:=kK (J:=fun g=>∃ n,Las P ⟨Z,Kc,⟨Wg,3,none⟩,⟨Wg,4,none⟩⟩ 1 n 1 g) mu_las
   refine key _ ?_
   walk_nrm
   refine wB090 ?_
   refine yek _ ?_
   clear hK key yek K
   refine las_rel (d:=0) rfl (fun w hw hc=>(stepG_semrelease rfl rfl (base_ne _) rfl H.f_semrelease (x_semrelease_n L) (x_semrelease_b L) (x_semrelease_x L) (x_semrelease_f L) (by simp [Act.eval]) hc (thaw_sm hE hw)).trans (by rfl)) (mayWake_call rfl rfl H.f_semrelease (x_semrelease_b L)) rfl ?_
   obtain ⟨K,hK,key,yek⟩:=kK (J:=fun g=>∃ n,QuitsD P n 1 g) mu_quits
   refine key _ ?_
   walk_nrm
   refine wB090 ?_
   refine yek _ ?_
   clear hK key yek K
   refine quits_enable rfl H.f_enable (x_enable_n L) (x_enable_b L) (x_enable_x L) (x_enable_f L) ?_
   refine mu_leave0 (K:=fun g=>∃ n,QuitsD P n 0 g) mu_quits rfl rfl H.f_add rfl ?_
   exact hT
variable {P : Program} {L : WgLink}
theorem baseD_ne (f : FuncId) : (baseD f).kind ≠ .early:=by intro h; cases h
set_option maxHeartbeats 8000000 in
theorem doneF (H : WgLib P L) {E : Env} (hE : EnvOk E) {Wg : Nat} (hst : E.st = ⟨Wg,3,none⟩) (hsm : E.sm = ⟨Wg,4,none⟩) {fr : Frame} {cs : List Frame} (hm : fr.mode = .returning) (hT : ∃ n,QuitsD P n 0 (G fr cs)) :
   ∃ n,Fin P E (Las P E 3) n 0 (G ((baseD L.done).at ⟨#[.pointer (some ⟨Wg,3,none⟩),undef,undef,undef],[]⟩ [.code ((doneFn L).body.getD .skip)]) (fr :: cs)):=by
 have hA:=@addF P L H E hE Wg hst hsm
 have hnt : (addFn L).ntmps = 117:=rfl
 simp only [doneFn,Option.getD_some]
 obtain ⟨K,hK,key,yek⟩:=kK (J:=fun g=>∃ n,Fin P E (Las P E 3) n 0 g) mu_fin
 refine key _ ?_
 refine mu_region hK ?_
 simp only [List.size_toArray,List.length_cons,List.length_nil,Nat.reduceAdd,Nat.zero_add,List.range,List.range.loop]
 refine mu_valn hK rfl rfl rfl (baseD_ne _) (fun J hJ=>?_) (fun w=>by simp [go_sem, *])
 go_simp
 refine hJ _ ?_
 clear hJ J
 walk_nrm
 refine mu_call (c:=(addFn L).body.getD .skip) hK rfl rfl (baseD_ne _) rfl H.f_add (nm_add L) rfl ?_
 rw [hnt]
 walk_nrm
 refine yek _ ?_
 refine hA ?_
 have hq : Mu P (fun _=>True) (fun g=>∃ n,QuitsD P n 0 g):=mu_quits
 walk_nrm
 refine mu_region_end (K:=fun g=>∃ n,QuitsD P n 0 g) hq ?_
 refine mu_end (K:=fun g=>∃ n,QuitsD P n 0 g) hq ?_
 exact mu_leaveD (K:=fun g=>∃ n,QuitsD P n 0 g) hq rfl rfl H.f_done rfl hm hT
open Go Go.Conc Go.Proofs Go.Conc.Lib Go.ConcR.Gen
open Go.ConcN (sumTo upd sumTo_upd upd_ne upd_same)
section
variable {C : Cw} {E : Env} {V : World} {ended : Bool} {st : Nat -> Int} {Post : Value -> World -> Prop} {Lst : Nat -> Nat -> Goroutine -> Prop} {h pend N : Nat} {role : Nat -> Role}
theorem mu_unwind_enter {R : World -> Prop} {K : Goroutine -> Prop} (hK : Mu Try.prog R K) {fr : Frame} {cs : List Frame} {f : FuncId} {fn : Func} {c : Code} {caps args : Array Value} {ds : List Deferred} (hd : fr.defers = ⟨.fn (.func f) caps, args⟩ :: ds) (hf : Try.prog.funcs[f]? = some fn) (hname : (fn.name == "runtime.NumGoroutine") = false) (hb : fn.body = some c) (hm : fr.mode ≠ .run)
   (h : K (G (Frame.enter Try.prog f (args ++ caps) .deferred) ({ fr with defers:=ds } :: cs))) : K (G fr cs) :=
 mu_step hK rfl (fun main w=>by
   have h1 : ¬ fn.name = "runtime.NumGoroutine" := by simpa using hname
   cases hmd : fr.mode with
   | run=>exact absurd hmd hm
   | returning=>simp [G,stepG,unwind,callDeferred,hd,hmd,invoke,callFunc,hf,h1,hb,GStep.after,seen_none]
   | panicking ch=>simp [G,stepG,unwind,callDeferred,hd,hmd,invoke,callFunc,hf,h1,hb,GStep.after,seen_none]) h
theorem mu_recover {R : World -> Prop} {K : Goroutine -> Prop} (hK : Mu Try.prog R K) {b fr : Frame} {a : Act} {k : List Item} {cs : List Frame} {ops : Array Oper} {i : Nat} {rest : List Nat} {o : Oper} {v : Value} {md : FrameMode} {ats : Array TypeId} (ho : ops[i]? = some o) (hw : Region.wanted o (yielded ops a.tmps) = true) (hb : b.kind = .deferred) (hbr : b.roundOf = none) (hop : o.op = .call { callee:=.builtin .recover,args:=#[],argTypes:=ats })
   (hm : fr.mode = .returning /\ v = .nilIface /\ md = .returning ∨ fr.mode = .panicking [{ v:=v,recovered:=false }] /\ md = .panicking [{ v:=v,recovered:=true }]) (h : K (G (b.at (a.put o.dst v) (.inRegion ops rest :: k)) ({ fr with mode:=md } :: cs))) : K (G (b.at a (.inRegion ops (i :: rest) :: k)) (fr :: cs)) :=
 mu_step hK rfl (fun main w=>by
   rw [stepG_oper ho hw]
   have hr : (execOp a.eval o).run Try.prog w = .ok .recover w:=by unfold execOp; simp [hop,resolve,invoke,builtin]
   have he : (execOp a.eval o).events Try.prog w #[] = #[]:=by unfold execOp; simp [hop,resolve,invoke,builtin]
   have hfin : (b.at a (.inRegion ops (i :: rest) :: k)).finish v = b.at (a.put o.dst v) (.inRegion ops rest :: k):=by rw [Frame.finish_at,ho]; rfl
   rcases hm with ⟨h1,rfl,rfl⟩ | ⟨h1,rfl⟩
   . have hfr : ({ fr with mode:=.returning } : Frame) = fr:=by cases fr; simp only at h1; subst h1; rfl
     rw [hfr]
     have:=hfin
     simp [stepG.apply,hr,he,G,Frame.at,hb,hbr,tryRecover,h1,GStep.after,seen_none] at this ⊢
     exact this
   . have:=hfin
     simp [stepG.apply,hr,he,G,Frame.at,hb,hbr,tryRecover,h1,GStep.after,seen_none] at this ⊢
     exact this) h
theorem mu_back {R : World -> Prop} {K : Goroutine -> Prop} (hK : Mu Try.prog R K) {b fr : Frame} {a : Act} {todo : List Item} {cs : List Frame} {fn : Func} {v : Value} (hn : b.kind = .deferred) (hd : a.defers = []) (hf : Try.prog.funcs[b.fn]? = some fn) (hr : fn.results = #[]) (hm : fr.mode = .returning ∨ fr.mode = .panicking [{ v:=v,recovered:=true }])
   (h : K (G { fr with mode:=.returning } cs)) : K (G { b.at a todo with mode:=.returning } (fr :: cs)) :=
 mu_step hK rfl (fun main w=>by
   have e1:=results_none hr a.tmps Try.prog w
   have e2:=events_results_none (P:=Try.prog) (w:=w) hr a.tmps
   rcases hm with h1 | h1
   . have hfr : ({ fr with mode:=.returning } : Frame) = fr:=by cases fr; simp only at h1; subst h1; rfl
     rw [hfr]
     simp [G,stepG,unwind,doReturn,Frame.at,hn,hd,hf,e1,e2,h1,seen_none,GStep.after]
   . simp [G,stepG,unwind,doReturn,Frame.at,hn,hd,hf,e1,e2,h1,seen_none,GStep.after]) h
noncomputable def rootF : Frame:={ (default : Frame) with fn:=Try.prog.funcs.size,defers:=[],mode:=.panicking [goexitEntry] }
theorem mu_child {R : World -> Prop} {K : Goroutine -> Prop} (hK : Mu Try.prog R K) {f : FuncId} {fn : Func} {c : Code} {caps args : Array Value} (hf : Try.prog.funcs[f]? = some fn) (hname : (fn.name == "runtime.NumGoroutine") = false) (hb : fn.body = some c) (h : K (G (Frame.enter Try.prog f (args ++ caps) .deferred) [rootF])) : K (born Try.prog ⟨.fn (.func f) caps, args⟩) := by
 have:=mu_unwind_enter (K:=K) (fr:={ (default : Frame) with fn:=Try.prog.funcs.size,defers:=[⟨.fn (.func f) caps,args⟩],mode:=.panicking [goexitEntry] }) (cs:=[]) (ds:=[]) hK rfl hf hname hb (by simp) h
 exact this
theorem quits_end {b : Frame} {a : Act} {todo : List Item} {fn : Func} (hn : b.kind = .deferred) (hd : a.defers = []) (hf : Try.prog.funcs[b.fn]? = some fn) (hr : fn.results = #[]) : ∃ n,QuitsD Try.prog n 0 (G { b.at a todo with mode:=.returning } [rootF]):=by
 have e1:=fun w=>results_none hr a.tmps Try.prog w
 have e2:=fun w=>events_results_none (P:=Try.prog) (w:=w) hr a.tmps
 refine ⟨2,QuitsD.ctl (g':=G rootF []) rfl (fun w=>?_) (QuitsD.ctl (g':={ G rootF [] with status:=.finished }) rfl (fun w=>?_) ⟨rfl,rfl⟩)⟩
 . simp [G,stepG,unwind,doReturn,Frame.at,hn,hd,hf,e1,e2,seen_none,GStep.after,rootF,goexitEntry]
 . simp [G,stepG,unwind,rootF,goexitEntry,Frame.catches]
   rfl
theorem done_fin (hO : CwOk E C) {T : Array Value} {todo : List Item} : ∃ n,Fin Try.prog E (Las Try.prog E 3) n 0 (G { (baseD 141).at ⟨T,[⟨.fn (.func 160) #[],#[.pointer (some ⟨C.cb,3,none⟩)]⟩]⟩ todo with mode:=.returning } [rootF]):=by
 obtain ⟨K,hK,key,yek⟩:=kK (J:=fun g=>∃ n,Fin Try.prog E (Las Try.prog E 3) n 0 g) mu_fin
 refine key _ ?_
 refine mu_unwind_enter (c:=(doneFn Try.link).body.getD .skip) hK rfl Try.wgLib.f_done (by kernel_rfl) rfl (by simp [Frame.at]) ?_
 rw [enter_atD (P:=Try.prog) (c:=(doneFn Try.link).body.getD .skip) _ Try.wgLib.f_done rfl]
 have hnt : (doneFn Try.link).ntmps = 4:=rfl
 rw [hnt]
 simp only [List.append_toArray,List.append_nil,Array.append_empty]
 walk_nrm
 refine yek _ ?_
 exact doneF Try.wgLib hO.ok hO.st hO.sm rfl (quits_end (b:=baseD 141) (a:=⟨T,[]⟩) (todo:=todo) rfl rfl Try.func141 rfl)
theorem wB091 {A : Prop} {k0 : List Item} {B : List Item -> Prop} (h : ∀ kk,kk = k0 -> B kk) (w : Hd (∀ kk,kk = k0 -> B kk) -> A:=by
 intro h
 repeat (first|(with_reducible first|apply hK.sq|apply hK.sk|(apply hK.re;try rw [hkk])|apply hK.bl|refine mu_loop hK ?_|apply hK.ib|refine mu_inLoop hK ?_|apply hK.rt|apply hK.nd)|refine hK.ex rfl ?_|(with_reducible refine hK.rg fun kk hkk=>?_;simp only [ix,Nat.reduceAdd])|(with_reducible first|refine hK.cf ?_|refine hK.ct ?_)|(refine hK.uw rfl rfl ?_;walk_nrm)|(refine hV.vl rfl rfl fun J hJ=>?_;go_simp;with_reducible refine hJ _ ?_;clear hJ J;walk_nrm))
 first | exact h.h kk hkk | (obtain ⟨k2,e⟩ : ∃ x,x = kk:=⟨_,rfl⟩;rw [← e];exact h.h k2 (e.trans hkk)) | (obtain ⟨kk,hkk⟩ : ∃ kk : List Item,kk = []:=⟨_,rfl⟩;exact h.h kk hkk)) : A:=w ⟨h⟩
theorem over_go (hO : CwOk E C) (hn : norm V = V) (H : CwAt C ended st V) {i : Nat} (hi : i < C.n) {bx : Nat} (hbx : V.cell? ⟨bx,0,none⟩ = some (C.tp i)) (hbt : bx ≠ C.tb i) {r0 : Goroutine} {z0 : Value} (hpos : 0 < h) (h0n : 0 < N) (h0 : role 0 = .seat C.bk z0 r0)
   {T : Array Value} {todo : List Item} {md : FrameMode} {v : Value} (hmd : md = .returning /\ v = .nilIface ∨ md = .panicking [{ v:=v,recovered:=false }])
   (K0 : To Try.prog Post E (Las Try.prog E 3) 0 0 pend N (upd (upd role h .fin) 0 .fin) (V.setCell ⟨C.tb i,4,none⟩ (.int .i64 3)) (Go.Conc.served r0 (recvd false (.int .i64 i) true))) :
   To Try.prog Post E (Las Try.prog E 3) h 0 pend N role V (G { (baseD 141).at ⟨T,[⟨.fn (.func 161) #[.pointer (some ⟨bx,0,none⟩)],#[]⟩,⟨.fn (.func 160) #[],#[.pointer (some ⟨C.cb,3,none⟩)]⟩]⟩ todo with mode:=md } [rootF]):=by
 have e0 : ∀ τ,(re V τ 0).cell? ⟨bx,0,none⟩ = some (.pointer (some ⟨C.tb i,0,none⟩)):=fun τ=>hbx
 have e5 : ∀ τ,(re V τ 0).cell? ⟨C.tb i,4,none⟩ = some (.int .i64 (st i)):=fun τ=>H.t4 hi
 have e6 : ∀ τ,(re V τ 0).frozen? ⟨C.tb i,4,none⟩ = false:=fun τ=>H.f4 hi
 have H':=H.put hO hi 3
 have g0 : ∀ τ,(re (V.setCell ⟨C.tb i,4,none⟩ (.int .i64 3)) τ 0).cell? ⟨bx,0,none⟩ = some (.pointer (some ⟨C.tb i,0,none⟩)):=fun τ=>by
   rw [re_cell,cell_setSt_ne _ (.inl hbt)]; exact hbx
 have g1 : ∀ τ,(re (V.setCell ⟨C.tb i,4,none⟩ (.int .i64 3)) τ 0).cell? ⟨C.tb i,1,none⟩ = some (.pointer (some ⟨C.cb,0,none⟩)):=fun τ=>H'.t1 hi
 have g3 : ∀ τ,(re (V.setCell ⟨C.tb i,4,none⟩ (.int .i64 3)) τ 0).cell? ⟨C.cb,1,none⟩ = some (.chan (some C.bk)):=fun τ=>H'.c1
 have g4 : ∀ τ,(re (V.setCell ⟨C.tb i,4,none⟩ (.int .i64 3)) τ 0).cell? ⟨C.tb i,0,none⟩ = some (.int .i64 i):=fun τ=>H'.t0 hi
 obtain ⟨md',hmd'⟩ : ∃ md' : FrameMode,(md = .returning /\ v = .nilIface /\ md' = .returning ∨ md = .panicking [{ v:=v,recovered:=false }] /\ md' = .panicking [{ v:=v,recovered:=true }]):=by
   rcases hmd with ⟨h1,h2⟩ | h1
   . exact ⟨_,.inl ⟨h1,h2,rfl⟩⟩
   . exact ⟨_,.inr ⟨h1,rfl⟩⟩
 have hnr : md ≠ .run:=by rcases hmd with ⟨rfl,_⟩ | rfl <;> simp
 obtain ⟨K,hK,hV,hD,key,yek⟩:=kKVD (L:=Lone) (J:=fun g=>To Try.prog Post E (Las Try.prog E 3) h 0 pend N role V g) (mu_to hO.ok) (muv_to hO.ok hn) (mud_to hO.ok)
 refine key _ ?_
 refine mu_unwind_enter hK rfl Try.func161 (by kernel_rfl) rfl hnr ?_
 rw [enter_atD (P:=Try.prog) _ Try.func161 rfl]
 simp only [Try.f161]
 walk_nrm
 try simp only [List.append_toArray,List.nil_append,List.size_toArray,List.length_cons,List.length_nil,Nat.reduceAdd,Nat.reduceSub,Nat.zero_add,Array.replicate_succ,Array.replicate_zero,List.push_toArray,List.cons_append,Array.empty_append]
 refine mu_seq hK ?_
 refine mu_regionH hK (fun kk hkk=>?_)
 simp only [List.size_toArray,List.length_cons,List.length_nil,Nat.reduceAdd,Nat.zero_add,List.range,List.range.loop]
 refine mu_recover (md:=md') hK rfl rfl rfl rfl rfl hmd' ?_
 walk_nrm
 refine wB091 fun kk hkk=>?_
 refine yek _ ?_
 clear hK hV hD key yek K
 have hn':=norm_set hn ⟨C.tb i,4,none⟩ (.int .i64 3)
 refine mus_put (L:=Lone) (mus_to hO.ok hn') (K:=fun g=>To Try.prog Post E (Las Try.prog E 3) h 0 pend N role V g) (K':=fun g=>To Try.prog Post E (Las Try.prog E 3) h 0 pend N role (V.setCell ⟨C.tb i,4,none⟩ (.int .i64 3)) g) rfl (.inr rfl) rfl (by kernel_rfl) (fun τ=>?_) ?_
 . go_simp
   rfl
 obtain ⟨K,hK,hV,hD,key,yek⟩:=kKVD (L:=Lone) (J:=fun g=>To Try.prog Post E (Las Try.prog E 3) h 0 pend N role (V.setCell ⟨C.tb i,4,none⟩ (.int .i64 3)) g) (mu_to hO.ok) (muv_to hO.ok hn') (mud_to hO.ok)
 refine key _ ?_
 walk_nrm
 refine wB091 fun kk hkk=>?_
 refine mu_draw 11 hK hV hD (.inr rfl) (by kernel_rfl) ?_
 refine wS ?_
 refine anyQ 0 12 rfl ?_
 refine anyQ 1 12 rfl ?_
 refine anyQ 2 12 rfl ?_
 refine anyQ 3 12 rfl ?_
 refine anyQ 4 12 rfl ?_
 refine anyQ 5 12 rfl ?_
 refine anyQ 6 12 rfl ?_
 refine anyQ 7 12 rfl ?_
 refine anyQ 8 12 rfl ?_
 refine anyQ 9 12 rfl ?_
 refine anyQ 10 12 rfl ?_
 refine anyP_last (by kernel_rfl) (fun t=>?_)
 simp only [Region.linearise.go,List.reverse_nil]
 refine yek _ ?_
 clear hK hV hD key yek K
 refine To.giveFin hO.ok (v:=.int .i64 i) hpos (by omega) h0n h0 rfl rfl (by decide) rfl rfl rfl ?_ K0
 obtain ⟨K,hK,key,yek⟩:=kK (J:=fun g=>∃ n,Fin Try.prog E (Las Try.prog E 3) n 0 g) mu_fin
 refine key _ ?_
 walk_nrm
 repeat (first|(with_reducible first|apply hK.sq|apply hK.sk|(apply hK.re;try subst hkk)|apply hK.bl|refine mu_loop hK ?_|apply hK.ib|refine mu_inLoop hK ?_|apply hK.rt|apply hK.nd)|refine hK.ex rfl ?_|(with_reducible refine hK.rg fun kk hkk=>?_;simp only [ix,Nat.reduceAdd])|(with_reducible first|refine hK.cf ?_|refine hK.ct ?_)|(refine hK.uw rfl rfl ?_;walk_nrm)|(refine mu_valn hK rfl rfl rfl (by decide) (fun J hJ=>?_) (fun w=>by first|(simp [go_sem, *];done)|(simp [go_sem,Instr.makeInterface, *];done));go_simp;with_reducible refine hJ _ ?_;clear hJ J;walk_nrm))
 refine mu_back (v:=v) hK rfl rfl Try.func161 rfl ?_ ?_
 . rcases hmd' with ⟨_,_,h1⟩ | ⟨_,h1⟩
   . exact .inl h1
   . exact .inr h1
 refine yek _ ?_
 exact done_fin hO
end
end Go.Proofs.Ytibcdikfbhmheaa
