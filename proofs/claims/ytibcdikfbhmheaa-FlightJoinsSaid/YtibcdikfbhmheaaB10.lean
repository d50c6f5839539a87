import Derived.Test.YtibcdikfbhmheaaB07
import Derived.Conc.WgArith
set_option linter.unusedSimpArgs false
set_option linter.unusedVariables false
set_option maxRecDepth 100000
namespace Go.Proofs.Ytibcdikfbhmheaa
open Go Go.Conc Go.Conc.Lib Go.ConcR.Gen
open Go.ConcN (st_flag st_waiters)
variable {P : Program} {L : WgLink}
variable {Post : Value -> World -> Prop} {Lst : Nat -> Nat -> Goroutine -> Prop} {h dh pend n : Nat} {role : Nat -> Role} {V : World}
theorem to_enable {E : Env} (hE : EnvOk E) {b : Frame} {a : Act} {ds : List Deferred} {todo : List Item} {cs : List Frame} {f : FuncId} {fn : Func} (hd : a.defers = dcall f #[] :: ds) (hf : P.funcs[f]? = some fn) (hname : (fn.name == "runtime.NumGoroutine") = false) (hb : fn.body.isNone = true) (hn : Extern.findNext fn = none)
   (he : Extern.find fn = some (fun _=>do mark .enable; pure Extern.Race.none_)) (K : To P Post E Lst h 0 pend n role V (G { b.at ⟨a.tmps,ds⟩ todo with mode:=.returning } cs)) : To P Post E Lst h 1 pend n role V (G { b.at a todo with mode:=.returning } cs) :=
 To.mark (es:=#[⟨.mark .enable,false,true⟩]) hE rfl (fun w _ _=>stepG_unwind_entry (v:=.tuple #[]) hd hf hname hb hn he (by simp [Extern.Race.none_]) (by simp) (by
   intro x hx'
   simp at hx'
   subst hx'
   exact ⟨rfl,fun g h=>by cases h⟩)) (fun w _ e he=>by
   simp only [List.mem_toArray,List.mem_cons,List.not_mem_nil,or_false] at he
   subst he
   exact ⟨fun b hb=>by simp [MemAct.ofEvent,MemAct.touch?] at hb,trivial⟩) K
theorem to_disable {E : Env} (hE : EnvOk E) {g g' : Goroutine} (hr : g.status = .running) (hs : ∀ w,stepG P (h == 0) g w = .go g' w #[⟨.mark .disable,false,true⟩]) (K : To P Post E Lst h (dh + 1) pend n role V g') : To P Post E Lst h dh pend n role V g :=
 To.mark (es:=#[⟨.mark .disable,false,true⟩]) hE hr (fun w _ _=>hs w) (fun w _ e he=>by
   simp only [List.mem_toArray,List.mem_cons,List.not_mem_nil,or_false] at he
   subst he
   exact ⟨fun b hb=>by simp [MemAct.ofEvent,MemAct.touch?] at hb,trivial⟩) K
theorem sm_lt {E : Env} (hE : EnvOk E) {w : World} (hK : KW P E w) : E.sm.block < w.heap.size:=by
 obtain ⟨_,_,_,k,lo,hi,hz,_⟩:=hE.sm
 obtain ⟨_,o,ho,_⟩:=hK.1.cut _ _ hz
 exact (Array.getElem?_eq_some_iff.1 ho).1
theorem to_read {E : Env} (hE : EnvOk E) {g g' : Goroutine} (hr : g.status = .running) (hs : ∀ w,stepG P (h == 0) g w = .go g' w #[⟨.mark (.read E.sm),false,true⟩]) (K : To P Post E Lst h dh pend n role V g') : To P Post E Lst h dh pend n role V g :=
 To.mark (es:=#[⟨.mark (.read E.sm),false,true⟩]) hE hr (fun w _ _=>hs w) (fun w hw e he=>by
   simp only [List.mem_toArray,List.mem_cons,List.not_mem_nil,or_false] at he
   subst he
   refine ⟨fun b hb=>?_,sm_lt hE hw⟩
   simp only [MemAct.ofEvent,MemAct.touch?,Option.some.injEq] at hb
   subst hb
   exact ⟨shun_sm hE,by simp⟩) K
theorem to_add_at {E : Env} (hE : EnvOk E) {b : Frame} {a : Act} {kk : List Item} {cs : List Frame} {f : FuncId} {fn : Func} {ops : Array Oper} {i : Nat} {rest : List Nat} {o : Oper} {ats : Array TypeId} {x y : Operand} (ho : ops[i]? = some o) (hw : Region.wanted o (yielded ops a.tmps) = true) (hk : b.kind ≠ .early) (hop : o.op = .call { callee:=.value (.func f),args:=#[x,y],argTypes:=ats })
   (hf : P.funcs[f]? = some fn) (hname : (fn.name == "runtime.NumGoroutine") = false) (hb : fn.body.isNone = true) (hn : Extern.findNext fn = none)
   (he : Extern.find fn = some (Extern.Atomic.update (Op.intArith .add) .u64 true)) (hx : a.eval x = .pointer (some E.st)) (hy : a.eval y = .int .u64 4294967296) (hc : Go.ConcN.sumTo n (counts role) + pend + 1 < 2147483647)
   (K : ∀ v : Nat,0 < v -> v < 2147483647 -> To P Post E Lst h dh (pend + 1) n role V (G (b.at (a.put o.dst (.int .u64 (v * two32))) (.inRegion ops rest :: kk)) cs)) : To P Post E Lst h dh pend n role V (G (b.at a (.inRegion ops (i :: rest) :: kk)) cs) :=
 To.addOne (g':=fun v=>G (b.at (a.put o.dst (.int .u64 (v * two32))) (.inRegion ops rest :: kk)) cs) hE rfl hc (fun w v _ hK hv hcell=>by
   have e : IntKind.u64.wrap ((v : Int) * two32 + 4294967296) = ((v + 1 : Nat) : Int) * two32:=by rw [IntKind.wrap_u64]; simp only [two32]; omega
   rw [← e]
   exact stepG_add_atomic ho hw hk hop hf hname hb hn .u64 he hx hy hcell (thaw_st hE hK)) K
theorem wB100 {A B : Prop} (h : B) (w : Hd B -> A:=by
 intro h
 repeat (first|(with_reducible first|apply hK.sq|apply hK.sk|(apply hK.re;try subst hkk)|apply hK.bl|refine mu_loop hK ?_|apply hK.ib|refine mu_inLoop hK ?_|apply hK.rt|apply hK.nd)|(with_reducible refine mu_exit hK ?_ ?_;(· exact rfl))|(with_reducible refine hK.rg fun kk hkk=>?_;simp only [ix,Nat.reduceAdd])|(with_reducible refine mu_cf hK ?_ ?_;(· first|(walk_nrm;done)|(simp [Act.eval];done)|(simp [Act.eval];omega)))|(with_reducible refine mu_ct hK ?_ ?_;(· first|(walk_nrm;done)|(simp [Act.eval];done)|(simp [Act.eval];omega)))|(refine hK.uw rfl rfl ?_;walk_nrm)|(refine mu_valB hK rfl rfl rfl (fun J hJ=>?_) (fun w=>by simp [go_sem, *]);go_simp;with_reducible refine hJ _ ?_;clear hJ J;walk_nrm;try w_num)|(refine mu_callB hK rfl rfl rfl H.f_uAdd (nm_uAdd L) rfl ?_;walk_nrmf uAddFn)|(refine mu_callB hK rfl rfl rfl H.f_uLoad (nm_uLoad L) rfl ?_;walk_nrmf uLoadFn)|(refine mu_callB hK rfl rfl rfl H.f_uStore (nm_uStore L) rfl ?_;walk_nrmf uStoreFn)|(refine mu_callB hK rfl rfl rfl H.f_uCas (nm_uCas L) rfl ?_;walk_nrmf uCasFn)|(refine mu_callB hK rfl rfl rfl H.f_add (nm_add L) rfl ?_;walk_nrmf addFn)|(refine mu_leave1 hK rfl rfl H.f_uAdd rfl ?_;walk_nrm)|(refine mu_leave1 hK rfl rfl H.f_uLoad rfl ?_;walk_nrm)|(refine mu_leave1 hK rfl rfl H.f_uCas rfl ?_;walk_nrm)|(refine mu_leave0 hK rfl rfl H.f_uStore rfl ?_;walk_nrm)|(refine mu_deferB hK rfl rfl rfl ?_;walk_nrm)|(refine mu_entryB hK (.bool false) rfl rfl rfl H.f_inBubble (x_inBubble_n L) (x_inBubble_b L) (x_inBubble_x L) (x_inBubble_f L) ?_;walk_nrm))
 repeat subst hkk
 exact h.h) : A:=w ⟨h⟩
set_option maxHeartbeats 8000000 in
theorem addP (H : WgLib P L) {E : Env} (hE : EnvOk E) {Wg : Nat} (hst : E.st = ⟨Wg,3,none⟩) (hsm : E.sm = ⟨Wg,4,none⟩) (hc : Go.ConcN.sumTo n (counts role) + pend + 1 < 2147483647) {bQ : Frame} {aQ : Act} {opsQ : Array Oper} {iQ : Nat} {restQ : List Nat} {kQ : List Item} {cs : List Frame} (K0 : To P Post E Lst h 0 (pend + 1) n role V (G (bQ.at (aQ.put ((opsQ[iQ]?).bind (·.dst)) (.tuple #[])) (.inRegion opsQ restQ :: kQ)) cs)) :
   To P Post E Lst h 0 pend n role V (G ((base L.add).at ⟨#[.pointer (some ⟨Wg,3,none⟩),.int .i64 (1),undef,undef,undef,undef,undef,undef,undef,undef,undef,undef,undef,undef,undef,undef,undef,undef,undef,undef,undef,undef,undef,undef,undef,undef,undef,undef,undef,undef,undef,undef,undef,undef,undef,undef,undef,undef,undef,undef,undef,undef,undef,undef,undef,undef,undef,undef,undef,undef,undef,undef,undef,undef,undef,undef,undef,undef,undef,undef,undef,undef,undef,undef,undef,undef,undef,undef,undef,undef,undef,undef,undef,undef,undef,undef,undef,undef,undef,undef,undef,undef,undef,undef,undef,undef,undef,undef,undef,undef,undef,undef,undef,undef,undef,undef,undef,undef,undef,undef,undef,undef,undef,undef,undef,undef,undef,undef,undef,undef,undef,undef,undef,undef,undef,undef,undef],[]⟩ [.code ((addFn L).body.getD .skip)]) (bQ.at aQ (.inRegion opsQ (iQ :: restQ) :: kQ) :: cs)):=by
 obtain ⟨Z,Kc,st,sm⟩:=E
 simp only at hst hsm
 subst hst hsm
 have hcell : ∀ w,SW P ⟨Z,Kc,⟨Wg,3,none⟩,⟨Wg,4,none⟩⟩ w -> ∃ v,w.cell? ⟨Wg,4,none⟩ = some v:=fun w hw=>let ⟨_,⟨x,hx⟩,_⟩:=hw; ⟨_,hx⟩
 lib_facts
 simp only [addFn,Option.getD_some]
 obtain ⟨K,hK,key,yek⟩:=kK (J:=fun g=>To P Post ⟨Z,Kc,⟨Wg,3,none⟩,⟨Wg,4,none⟩⟩ Lst h 0 pend n role V g) (mu_to hE)
 refine key _ ?_
 refine wB100 ?_
 refine yek _ ?_
 clear hK key yek K
 refine to_disable (dh:=0) hE rfl (fun w=>stepG_mark0 .disable (by simp) rfl rfl (base_ne _) rfl H.f_disable (x_disable_n L) (x_disable_b L) (x_disable_x L) (x_disable_f L)) ?_
 obtain ⟨K,hK,key,yek⟩:=kK (J:=fun g=>To P Post ⟨Z,Kc,⟨Wg,3,none⟩,⟨Wg,4,none⟩⟩ Lst h 1 pend n role V g) (mu_to hE)
 refine key _ ?_
 walk_nrm
 refine wB100 ?_
 refine yek _ ?_
 clear hK key yek K
 refine to_add_at hE rfl rfl (base_ne _) rfl H.f_addU64 (x_addU64_n L) (x_addU64_b L) (x_addU64_x L) (x_addU64_f L) (by simp [Act.eval]) (by simp [Act.eval]) hc (fun v hv0 hv=>?_)
 simp only [two32]
 rcases Nat.eq_or_lt_of_le hv0 with e | hv1
 . obtain rfl : v = 1:=e.symm
   simp only [Int.natCast_one,Int.one_mul,Int.cast_ofNat_Int]
   obtain ⟨K,hK,key,yek⟩:=kK (J:=fun g=>To P Post ⟨Z,Kc,⟨Wg,3,none⟩,⟨Wg,4,none⟩⟩ Lst h 1 (pend + 1) n role V g) (mu_to hE)
   refine key _ ?_
   walk_nrm
   refine wB100 ?_
   refine mu_valR (v:=.pointer (some ⟨Wg,4,none⟩)) hK rfl rfl (base_ne _) (fun w hw=>?_) ?_
   . obtain ⟨x,hx⟩:=hcell w hw
     have hcv:=run_convert_to_unsafe (P:=P) H.underlying_tPU32 H.underlying_tUP H.room_tU32 hx
     have hce:=fun es=>events_convert_to_unsafe (P:=P) H.underlying_tPU32 H.underlying_tUP H.room_tU32 hx es
     refine ⟨?_,?_⟩
     . go_simp
     . simp [go_sem,hce]
   walk_nrm
   refine yek _ ?_
   refine to_read hE rfl (fun w=>stepG_markAt .read (by simp) rfl rfl (base_ne _) rfl H.f_raceRead (x_raceRead_n L) (x_raceRead_b L) (x_raceRead_x L) (x_raceRead_f L) (by simp [Act.eval])) ?_
   refine key _ ?_
   walk_nrm
   refine wB100 ?_
   refine yek _ ?_
   clear hK key yek K
   refine to_enable hE rfl H.f_enable (x_enable_n L) (x_enable_b L) (x_enable_x L) (x_enable_f L) ?_
   refine mu_leave0 (K:=fun g=>To P Post ⟨Z,Kc,⟨Wg,3,none⟩,⟨Wg,4,none⟩⟩ Lst h 0 (pend + 1) n role V g) (mu_to hE) rfl rfl H.f_add rfl ?_
   exact K0
 . obtain ⟨S,hS⟩ : ∃ S : Int,S = (v : Int) * 4294967296 + ((0 : Nat) : Int):=⟨_,rfl⟩
   obtain ⟨W,hW⟩ : ∃ W : Int,W = (v : Int):=⟨_,rfl⟩
   have hS' : (v : Int) * 4294967296 = S:=by omega
   rw [hS']
   have a1 : S / 4294967296 = W:=by rw [hS,hW]; omega
   have b1 : bits .and .u64 S 2147483648 = 0:=by rw [hS]; exact st_flag v 0 (by omega) (by omega)
   have b2 : bits .and .u64 S 2147483647 = 0:=by rw [hS]; exact st_waiters v 0 (by omega) (by omega)
   have c1 : IntKind.i32.wrap W = W:=by rw [IntKind.wrap_i32]; omega
   have hW1 : 1 < W:=by omega
   have hW2 : W < 2147483648:=by omega
   have q1 : (W == 1) = false:=by simp; omega
   have q2 : decide (W = 1) = false:=decide_eq_false (by omega)
   have q3 : decide (W < 0) = false:=decide_eq_false (by omega)
   have q4 : decide (0 < W) = true:=decide_eq_true (by omega)
   have q5 : (W == 0) = false:=by simp; omega
   have q6 : decide (W = 0) = false:=decide_eq_false (by omega)
   clear hS hS' hW hv0 hv1 hv
   obtain ⟨K,hK,key,yek⟩:=kK (J:=fun g=>To P Post ⟨Z,Kc,⟨Wg,3,none⟩,⟨Wg,4,none⟩⟩ Lst h 1 (pend + 1) n role V g) (mu_to hE)
   refine key _ ?_
   walk_nrm
   refine wB100 ?_
   refine yek _ ?_
   clear hK key yek K
   refine to_enable hE rfl H.f_enable (x_enable_n L) (x_enable_b L) (x_enable_x L) (x_enable_f L) ?_
   refine mu_leave0 (K:=fun g=>To P Post ⟨Z,Kc,⟨Wg,3,none⟩,⟨Wg,4,none⟩⟩ Lst h 0 (pend + 1) n role V g) (mu_to hE) rfl rfl H.f_add rfl ?_
   exact K0
end Go.Proofs.Ytibcdikfbhmheaa
