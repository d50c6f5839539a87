import Derived.Test.YtibcdikfbhmheaaQO03
import Derived.Test.YtibcdikfbhmheaaB17
import Derived.Test.YtibcdikfbhmheaaB22
import Derived.Test.YtibcdikfbhmheaaB14
set_option linter.unusedSimpArgs false
set_option linter.unusedVariables false
set_option maxRecDepth 100000
set_option maxHeartbeats 4000000
namespace Go.Proofs.Ytibcdikfbhmheaa
open Go Go.Conc Go.Proofs
open Go.ConcN (sumTo upd sumTo_upd upd_ne upd_same)
set_option linter.unusedVariables false
theorem array11 (T : Array Value) (h : T.size = 11) : ∃ v0 v1 v2 v3 v4 v5 v6 v7 v8 v9 v10 : Value,T = #[v0,v1,v2,v3,v4,v5,v6,v7,v8,v9,v10]:=by
 obtain ⟨l⟩:=T
 simp only [List.size_toArray] at h
 rcases l with _ | ⟨v0,l⟩
 · simp at h
 rcases l with _ | ⟨v1,l⟩
 · simp at h
 rcases l with _ | ⟨v2,l⟩
 · simp at h
 rcases l with _ | ⟨v3,l⟩
 · simp at h
 rcases l with _ | ⟨v4,l⟩
 · simp at h
 rcases l with _ | ⟨v5,l⟩
 · simp at h
 rcases l with _ | ⟨v6,l⟩
 · simp at h
 rcases l with _ | ⟨v7,l⟩
 · simp at h
 rcases l with _ | ⟨v8,l⟩
 · simp at h
 rcases l with _ | ⟨v9,l⟩
 · simp at h
 rcases l with _ | ⟨v10,l⟩
 · simp at h
 rcases l with _ | ⟨x,l⟩
 · exact ⟨v0,v1,v2,v3,v4,v5,v6,v7,v8,v9,v10,rfl⟩
 · simp at h
structure Ad where
 n : Nat
 d : Nat → Int
 ab : Nat
 lbx : Nat
 ibx : Nat → Nat
 la : Option Addr
 ln : Nat
 lc : Nat
 Vr : World
structure AS where
 st : Nat → Nat
 v : Int
def AS.step (D : Ad) (s : AS) (i : Nat) : AS:=if s.st i = 0 then { s with st:=upd s.st i 1 } else { st:=upd s.st i 2,v:=IntKind.i64.wrap (s.v + D.d i) }
noncomputable def B34 : Code:=Try.f34.body.getD .skip
noncomputable def A3 : Code:=nvb (nvb B34)
section
variable {D : Ad} {C : Cw} {E : Env} {i : Nat} {own : Nat → Prop} {V : World} {σ : AS} {a₁ : Act} {ops₁ : Array Oper} {i₁ : Nat} {rest₁ : List Nat} {k₁ : List Item}
end
end Go.Proofs.Ytibcdikfbhmheaa

namespace Go.Proofs.Ytibcdikfbhmheaa
open Go Go.Conc Go.Proofs
open Go.ConcN (sumTo upd sumTo_upd upd_ne upd_same)
set_option linter.unusedVariables false
structure Od where
 n : Nat
 ob : Nat
 cb : Nat
 db : Nat
structure OS where
 st : Nat → Nat
 c : Bool
def OS.step (s : OS) (i : Nat) : OS:=if s.st i = 0 then { s with st:=upd s.st i 1 } else { st:=upd s.st i 2,c:=true }
def bi (c : Bool) : Int:=if c then 1 else 0
structure OInv (D : Od) (s : OS) (own : Nat → Prop) (V : World) : Prop where
 ob : V.heap[D.ob]? = some (.cells #[.int .u32 (bi s.c),.int .i32 0,.int .u32 0,.int .u32 (bi s.c)] 86 (0,0))
 cb : V.heap[D.cb]? = some (.cells #[.int .i64 (bi s.c)] 3 (0,0))
 db : V.heap[D.db]? = some (.cells #[.int .i64 (bi s.c)] 3 (0,0))
 old : own D.ob ∧ own D.cb ∧ own D.db
structure OdOk (D : Od) : Prop where
 ne : D.cb ≠ D.ob ∧ D.db ≠ D.ob ∧ D.db ≠ D.cb
noncomputable def B35 : Code:=Try.f35.body.getD .skip
noncomputable def ops35 : Array Oper:=rops (nva B35)
noncomputable def A35 : Code:=nvb B35
noncomputable def Uon (D : Od) (C : Cw) : Usr:={ S:=OS,inv:=OInv D,st:=fun s i=>stv (s.st i),loc:=fun s i cs=>∃ T,T.size = 11 ∧ T[1]? = some (bp D.ob) ∧ T[2]? = some (bp D.cb) ∧ T[3]? = some (bp D.db) ∧ cs = [(base 35).at ⟨T,[]⟩ [.inRegion ops35 [1],.code A35]],turn:=OS.step,fid:=fun _=>35,first:=fun _=>#[],caps:=fun i=>#[bp D.ob,bp D.cb,bp D.db] }
section
variable {D : Od} {C : Cw} {E : Env} {i : Nat} {own : Nat → Prop} {V : World} {σ : OS} {a₁ : Act} {ops₁ : Array Oper} {i₁ : Nat} {rest₁ : List Nat} {k₁ : List Item}
theorem uon_start (O : OdOk D) (hi : i < C.n) (hs : σ.st i = 0) (hn : norm V = V) (H : CwAt C false (upd (fun j=>stv (σ.st j)) i 1) V) (A : OInv D σ own V) (hown : ∀ b,own b → b < V.heap.size) :
   WillM Try.prog false E.Z (TEndM C (Uon D C) σ i own V ((baseD 141).at a₁ (.inRegion ops₁ (i₁ :: rest₁) :: k₁))) 0 (G (Frame.enter Try.prog 35 #[C.tp i,bp D.ob,bp D.cb,bp D.db] .normal) [(baseD 141).at a₁ (.inRegion ops₁ (i₁ :: rest₁) :: k₁),rootF]) V:=by
 intro KK hM hS
 simp only [bp]
 rw [enter_at (P:=Try.prog) _ Try.func35 rfl]
 simp only [Try.f35,Cw.tp]
 walk_nrm
 obtain ⟨K,hK,hV,key,yek⟩:=kKV (L:=Lone) (J:=fun g=>KK 0 g V) hM.mu (hM.muv hn)
 refine key _ ?_
 repeat (first|(with_reducible first|refine mu_seq hK ?_|refine mu_skip hK ?_|(refine mu_region_end hK ?_;try subst hkk)|refine mu_block hK ?_|refine mu_inBlock hK ?_|refine mu_ret hK ?_|refine mu_end hK ?_)|refine mu_exit hK rfl ?_|(with_reducible refine mu_regionH hK (fun kk hkk=>?_);simp only [List.size_toArray,List.length_cons,List.length_nil,Nat.reduceAdd,Nat.zero_add,List.range,List.range.loop])|(with_reducible refine mu_cf hK ?_ ?_;(· first|(walk_nrm;done)|(simp [Act.eval];done)))|(with_reducible refine mu_ct hK ?_ ?_;(· first|(walk_nrm;done)|(simp [Act.eval];done)))|(refine mu_unwanted hK rfl rfl ?_;walk_nrm)|(refine muv_val hV rfl (by first|exact .inl rfl|exact .inr rfl) rfl (by kernel_rfl) (fun J hJ=>?_);go_simp;with_reducible refine hJ _ ?_;clear hJ J;walk_nrm))
 try subst hkk
 refine mu_call hK rfl rfl (by decide) rfl Try.func24 (by kernel_rfl) rfl ?_
 rw [← enter_at (P:=Try.prog) _ Try.func24 rfl]
 walk_nrm
 refine yek _ ?_
 clear hK hV key yek K
 have hst : OS.step σ i = { σ with st:=upd σ.st i 1 }:=if_pos hs
 refine hS _ _ (TEnd.up (fun _ _ _=>trivial) ⟨hn,Nat.le_refl _,fun _ _ _ _=>rfl,⟨own,?_,fun b hb=>⟨.inl hb,hown b hb⟩⟩,?_,.inl ⟨?_,⟨_,[],rfl,?_⟩⟩⟩)
 · show OInv D (OS.step σ i) own V
   rw [hst]
   exact ⟨A.ob,A.cb,A.db,A.old⟩
 · show CwAt C false (upd (fun j=>stv ((OS.step σ i).st j)) i 1) V
   have e : upd (fun j=>stv ((OS.step σ i).st j)) i 1 = upd (fun j=>stv (σ.st j)) i 1:=by
     funext j
     rw [hst]
     by_cases e : j = i
     · subst e; rw [upd_same,upd_same]
     · rw [upd_ne _ _ e,upd_ne _ _ e]
       show stv (upd σ.st i 1 j) = _
       rw [upd_ne _ _ e]
   rw [e]
   exact H
 · show stv ((OS.step σ i).st i) = 1
   rw [hst]
   show stv (upd σ.st i 1 i) = 1
   rw [upd_same]
   rfl
 · exact ⟨_,by simp,rfl,rfl,rfl,rfl⟩
theorem uon_resume (O : OdOk D) (hi : i < C.n) {T : Array Value} (h11 : T.size = 11) (t1 : T[1]? = some (bp D.ob)) (t2 : T[2]? = some (bp D.cb)) (t3 : T[3]? = some (bp D.db)) (hst : σ.st i = 1) (hn : norm V = V) (H : CwAt C false (fun j=>stv (σ.st j)) V) (A : OInv D σ own V) (hown : ∀ b,own b → b < V.heap.size ∧ b ≠ C.cb ∧ ∀ j,j < C.n → b ≠ C.tb j) :
   WillM Try.prog false E.Z (TEndM C (Uon D C) σ i own V ((baseD 141).at a₁ (.inRegion ops₁ (i₁ :: rest₁) :: k₁))) 0 (G ((base 35).at (Act.put ⟨T,[]⟩ ((ops35[1]?).bind (·.dst)) (.tuple #[])) [.inRegion ops35 [],.code A35]) [(baseD 141).at a₁ (.inRegion ops₁ (i₁ :: rest₁) :: k₁),rootF]) V:=by
 intro KK hM hS
 obtain ⟨oo,oc,od⟩:=A.old
 have lo:=(hown _ oo).1
 have lc:=(hown _ oc).1
 have ld:=(hown _ od).1
 obtain ⟨n1,n2,n3⟩:=O.ne
 obtain ⟨v0,v1,v2,v3,v4,v5,v6,v7,v8,v9,v10,rfl⟩:=array11 T h11
 simp only [List.getElem?_toArray,List.getElem?_cons_zero,List.getElem?_cons_succ,Option.some.injEq,bp] at t1 t2 t3
 subst t1 t2 t3
 refine (fun (h : ∀ X Y,X = ops35 → Y = A35 → KK 0 (G ((base 35).at (Act.put ⟨_,[]⟩ ((X[1]?).bind (·.dst)) (.tuple #[])) [.inRegion X [],.code Y]) [(baseD 141).at a₁ (.inRegion ops₁ (i₁ :: rest₁) :: k₁),rootF]) V)=>h ops35 A35 rfl rfl) ?_
 intro X Y hX hY
 simp only [ops35,rops,A35,B35,nva,nvb,Try.f35,Option.getD_some] at hX hY
 subst hX hY
 walk_nrm
 obtain ⟨K,hK,hV,key,yek⟩:=kKV (L:=Lone) (J:=fun g=>KK 0 g V) hM.mu (hM.muv hn)
 refine key _ ?_
 repeat (first|(with_reducible first|refine mu_seq hK ?_|refine mu_skip hK ?_|(refine mu_region_end hK ?_;try subst hkk)|refine mu_block hK ?_|refine mu_inBlock hK ?_|refine mu_ret hK ?_|refine mu_end hK ?_)|refine mu_exit hK rfl ?_|(with_reducible refine mu_regionH hK (fun kk hkk=>?_);simp only [List.size_toArray,List.length_cons,List.length_nil,Nat.reduceAdd,Nat.zero_add,List.range,List.range.loop])|(with_reducible refine mu_cf hK ?_ ?_;(· first|(walk_nrm;done)|(simp [Act.eval];done)))|(with_reducible refine mu_ct hK ?_ ?_;(· first|(walk_nrm;done)|(simp [Act.eval];done)))|(refine mu_unwanted hK rfl rfl ?_;walk_nrm)|(refine muv_val hV rfl (by first|exact .inl rfl|exact .inr rfl) rfl (by kernel_rfl) (fun J hJ=>?_);go_simp;with_reducible refine hJ _ ?_;clear hJ J;walk_nrm))
 refine mu_call hK rfl rfl (by decide) rfl Try.func36 (by kernel_rfl) rfl ?_
 rw [← enter_at (P:=Try.prog) _ Try.func36 rfl]
 walk_nrm
 refine yek _ ?_
 clear hK hV key yek K
 have Aob:=A.ob
 have Acb:=A.cb
 have Adb:=A.db
 rcases hc : σ.c with _ | _
 · simp only [hc,bi,Bool.false_eq_true,if_false] at Aob Acb Adb
   refine o36f (m:=0) hM hn Aob Acb n1 fun V2 hn2 s2 eo ec kk2=>?_
   have ew : IntKind.i64.wrap (0 + 1) = 1:=by kernel_rfl
   rw [ew] at ec
   have ed:=(kk2 _ ld n2 n3).trans Adb
   have r_d : ∀ τ,(re V2 τ 0).cell? ⟨D.db,0,none⟩ = some (.int .i64 0):=fun τ=>cell_of ed (by simp)
   have z_d : ∀ τ,(re V2 τ 0).frozen? ⟨D.db,0,none⟩ = false:=fun τ=>by simp [World.frozen?,re,ed]
   walk_nrm
   obtain ⟨K,hK,hV,key,yek⟩:=kKV (L:=Lone) (J:=fun g=>KK 0 g V2) hM.mu (hM.muv hn2)
   refine key _ ?_
   repeat (first|(with_reducible first|refine mu_seq hK ?_|refine mu_skip hK ?_|(refine mu_region_end hK ?_;try subst hkk)|refine mu_block hK ?_|refine mu_inBlock hK ?_|refine mu_ret hK ?_|refine mu_end hK ?_)|refine mu_exit hK rfl ?_|(with_reducible refine mu_regionH hK (fun kk hkk=>?_);simp only [List.size_toArray,List.length_cons,List.length_nil,Nat.reduceAdd,Nat.zero_add,List.range,List.range.loop])|(with_reducible refine mu_cf hK ?_ ?_;(· first|(walk_nrm;done)|(simp [Act.eval];done)))|(with_reducible refine mu_ct hK ?_ ?_;(· first|(walk_nrm;done)|(simp [Act.eval];done)))|(refine mu_unwanted hK rfl rfl ?_;walk_nrm)|(refine muv_val hV rfl (by first|exact .inl rfl|exact .inr rfl) rfl (by kernel_rfl) (fun J hJ=>?_);go_simp;with_reducible refine hJ _ ?_;clear hJ J;walk_nrm))
   refine yek _ ?_
   clear hK hV key yek K
   have hn3:=norm_set hn2 ⟨D.db,0,none⟩ (.int .i64 1)
   refine mus_put (L:=Lone) (hM.mus hn3) (K:=fun g=>KK 0 g V2) (K':=fun g=>KK 0 g (V2.setCell ⟨D.db,0,none⟩ (.int .i64 1))) rfl (.inl rfl) rfl (by kernel_rfl) (fun τ=>?_) ?_
   · go_simp
     try rfl
   have k3 : ∀ b,b ≠ D.db → (V2.setCell ⟨D.db,0,none⟩ (.int .i64 1)).heap[b]? = V2.heap[b]?:=fun b hb=>by rw [setCell_heap,if_neg hb]
   have s3 : (V2.setCell ⟨D.db,0,none⟩ (.int .i64 1)).heap.size = V2.heap.size:=by simp [World.setCell]
   have e3 : (V2.setCell ⟨D.db,0,none⟩ (.int .i64 1)).heap[D.db]? = some (.cells #[.int .i64 1] 3 (0,0)):=by
     rw [setCell_heap,if_pos rfl,ed]
     simp
   clear r_d z_d
   generalize V2.setCell ⟨D.db,0,none⟩ (.int .i64 1) = V3 at *
   walk_nrm
   obtain ⟨K,hK,hV,key,yek⟩:=kKV (L:=Lone) (J:=fun g=>KK 0 g V3) hM.mu (hM.muv hn3)
   refine key _ ?_
   repeat (first|(with_reducible first|refine mu_seq hK ?_|refine mu_skip hK ?_|(refine mu_region_end hK ?_;try subst hkk)|refine mu_block hK ?_|refine mu_inBlock hK ?_|refine mu_ret hK ?_|refine mu_end hK ?_)|refine mu_exit hK rfl ?_|(with_reducible refine mu_regionH hK (fun kk hkk=>?_);simp only [List.size_toArray,List.length_cons,List.length_nil,Nat.reduceAdd,Nat.zero_add,List.range,List.range.loop])|(with_reducible refine mu_cf hK ?_ ?_;(· first|(walk_nrm;done)|(simp [Act.eval];done)))|(with_reducible refine mu_ct hK ?_ ?_;(· first|(walk_nrm;done)|(simp [Act.eval];done)))|(refine mu_unwanted hK rfl rfl ?_;walk_nrm)|(refine muv_val hV rfl (by first|exact .inl rfl|exact .inr rfl) rfl (by kernel_rfl) (fun J hJ=>?_);go_simp;with_reducible refine hJ _ ?_;clear hJ J;walk_nrm))
   refine yek _ ?_
   clear hK hV key yek K
   refine mu_leave0 (K:=fun g=>KK 0 g V3) hM.mu rfl rfl Try.func35 rfl ?_
   have sz3 : V.heap.size ≤ V3.heap.size:=by omega
   have kk3 : ∀ b,b < V.heap.size → b ≠ D.ob → b ≠ D.cb → b ≠ D.db → V3.heap[b]? = V.heap[b]?:=fun b h0 h1 h2 h3=>(k3 b h3).trans (kk2 b h0 h1 h2)
   have hstep : OS.step σ i = { st:=upd σ.st i 2,c:=true }:=if_neg (by omega)
   refine hS _ _ (TEnd.up (fun _ _ _=>trivial) ⟨hn3,sz3,fun b hb ho ht=>kk3 b hb (fun e=>ho (e ▸ oo)) (fun e=>ho (e ▸ oc)) (fun e=>ho (e ▸ od)),⟨own,?_,fun b hb=>⟨.inl hb,Nat.lt_of_lt_of_le (hown b hb).1 sz3⟩⟩,?_,.inr (.inr ⟨?_,.inl ⟨_,a₁,ops₁,i₁,rest₁,k₁,rfl,rfl⟩⟩)⟩)
   · show OInv D (OS.step σ i) own V3
     rw [hstep]
     exact ⟨(k3 _ (Ne.symm n2)).trans eo,(k3 _ (Ne.symm n3)).trans ec,e3,A.old⟩
   · show CwAt C false (upd (fun j=>stv ((OS.step σ i).st j)) i 1) V3
     have e : upd (fun j=>stv ((OS.step σ i).st j)) i 1 = fun j=>stv (σ.st j):=by
       funext j
       rw [hstep]
       by_cases e : j = i
       · subst e; rw [upd_same,hst]; rfl
       · rw [upd_ne _ _ e]
         show stv (upd σ.st i 2 j) = _
         rw [upd_ne _ _ e]
     rw [e]
     have hk : ∀ b,b < V.heap.size → (∀ x,own x → b ≠ x) → V3.heap[b]? = V.heap[b]?:=fun b hb ho=>kk3 b hb (ho _ oo) (ho _ oc) (ho _ od)
     exact H.keep (hk _ (Array.getElem?_eq_some_iff.1 H.crew).1 fun x hx e=>(hown x hx).2.1 e.symm) fun j hj=>hk _ (Array.getElem?_eq_some_iff.1 (H.thr j hj)).1 fun x hx e=>(hown x hx).2.2 j hj e.symm
   · show stv ((OS.step σ i).st i) = 3
     rw [hstep]
     show stv (upd σ.st i 2 i) = 3
     rw [upd_same]
     rfl
 · simp only [hc,bi,if_true] at Aob Acb Adb
   refine o36t hM hn Aob fun V2 hn2 s2 eo kk2=>?_
   walk_nrm
   obtain ⟨K,hK,hV,key,yek⟩:=kKV (L:=Lone) (J:=fun g=>KK 0 g V2) hM.mu (hM.muv hn2)
   refine key _ ?_
   repeat (first|(with_reducible first|refine mu_seq hK ?_|refine mu_skip hK ?_|(refine mu_region_end hK ?_;try subst hkk)|refine mu_block hK ?_|refine mu_inBlock hK ?_|refine mu_ret hK ?_|refine mu_end hK ?_)|refine mu_exit hK rfl ?_|(with_reducible refine mu_regionH hK (fun kk hkk=>?_);simp only [List.size_toArray,List.length_cons,List.length_nil,Nat.reduceAdd,Nat.zero_add,List.range,List.range.loop])|(with_reducible refine mu_cf hK ?_ ?_;(· first|(walk_nrm;done)|(simp [Act.eval];done)))|(with_reducible refine mu_ct hK ?_ ?_;(· first|(walk_nrm;done)|(simp [Act.eval];done)))|(refine mu_unwanted hK rfl rfl ?_;walk_nrm)|(refine muv_val hV rfl (by first|exact .inl rfl|exact .inr rfl) rfl (by kernel_rfl) (fun J hJ=>?_);go_simp;with_reducible refine hJ _ ?_;clear hJ J;walk_nrm))
   refine yek _ ?_
   clear hK hV key yek K
   refine mu_leave0 (K:=fun g=>KK 0 g V2) hM.mu rfl rfl Try.func35 rfl ?_
   have hstep : OS.step σ i = { st:=upd σ.st i 2,c:=true }:=if_neg (by omega)
   refine hS _ _ (TEnd.up (fun _ _ _=>trivial) ⟨hn2,s2,fun b hb ho ht=>kk2 b hb (fun e=>ho (e ▸ oo)),⟨own,?_,fun b hb=>⟨.inl hb,Nat.lt_of_lt_of_le (hown b hb).1 s2⟩⟩,?_,.inr (.inr ⟨?_,.inl ⟨_,a₁,ops₁,i₁,rest₁,k₁,rfl,rfl⟩⟩)⟩)
   · show OInv D (OS.step σ i) own V2
     rw [hstep]
     exact ⟨eo,(kk2 _ lc n1).trans Acb,(kk2 _ ld n2).trans Adb,A.old⟩
   · show CwAt C false (upd (fun j=>stv ((OS.step σ i).st j)) i 1) V2
     have e : upd (fun j=>stv ((OS.step σ i).st j)) i 1 = fun j=>stv (σ.st j):=by
       funext j
       rw [hstep]
       by_cases e : j = i
       · subst e; rw [upd_same,hst]; rfl
       · rw [upd_ne _ _ e]
         show stv (upd σ.st i 2 j) = _
         rw [upd_ne _ _ e]
     rw [e]
     have hk : ∀ b,b < V.heap.size → (∀ x,own x → b ≠ x) → V2.heap[b]? = V.heap[b]?:=fun b hb ho=>kk2 b hb (ho _ oo)
     exact H.keep (hk _ (Array.getElem?_eq_some_iff.1 H.crew).1 fun x hx e=>(hown x hx).2.1 e.symm) fun j hj=>hk _ (Array.getElem?_eq_some_iff.1 (H.thr j hj)).1 fun x hx e=>(hown x hx).2.2 j hj e.symm
   · show stv ((OS.step σ i).st i) = 3
     rw [hstep]
     show stv (upd σ.st i 2 i) = 3
     rw [upd_same]
     rfl
theorem uon_ok (O : OdOk D) (hf : ∀ i,i < C.n → C.f i = .func (.func 35) #[] #[bp D.ob,bp D.cb,bp D.db]) : UOk E C (Uon D C):=by
 have hother : ∀ (σ : OS) (i j : Nat),j ≠ i → (OS.step σ i).st j = σ.st j:=fun σ i j hj=>by
   unfold OS.step
   split
   · exact upd_ne _ _ hj
   · exact upd_ne _ _ hj
 refine ⟨fun σ own V V' A hk hsz=>?_,fun _ _ _ _ _ _ _=>trivial,fun σ i cs h=>?_,fun σ i j cs _ _ hj h=>h,fun σ i j _ _ _ hji=>.inl (congrArg stv (hother σ i j hji)),fun σ i _=>stv_four _,fun σ i hi h=>⟨hf i hi,_,_,Try.func35,by kernel_rfl,rfl⟩,fun σ i own V Rf bx hi hs hRf hn H A hown _ _=>?_,fun σ i own V Rf bx b a ops i₀ rest k cs hi hs hl _ hRf hn H A hown _ _=>?_⟩
 · exact ⟨by rw [hk _ A.old.1]; exact A.ob,by rw [hk _ A.old.2.1]; exact A.cb,by rw [hk _ A.old.2.2]; exact A.db,A.old⟩
 · obtain ⟨T,_,_,_,_,rfl⟩:=h
   intro f hf
   obtain rfl : f = _:=by simpa using hf
   exact uf_at rfl rfl rfl ⟨_,Try.func35⟩
 · obtain ⟨a₁,ops₁,i₁,rest₁,k₁,eRf,-⟩:=hRf
   subst eRf
   exact uon_start O hi (stv_zero hs) hn H A (fun b hb=>(hown b hb).1)
 · obtain ⟨a₁,ops₁,i₁,rest₁,k₁,eRf,-⟩:=hRf
   subst eRf
   obtain ⟨T,h11,t1,t2,t3,e⟩:=hl
   obtain ⟨e1,rfl⟩:=List.cons.inj e
   obtain ⟨rfl,e2,e3⟩:=at_inj e1
   obtain ⟨rfl,e4,rfl⟩:=item_inj e2
   obtain ⟨rfl,rfl⟩:=List.cons.inj e4
   rw [e3]
   have h1:=stv_one hs
   exact uon_resume O hi h11 t1 t2 t3 h1 hn H A hown
end
end Go.Proofs.Ytibcdikfbhmheaa

namespace Go.Proofs.Ytibcdikfbhmheaa
open Go Go.Conc Go.Proofs
open Go.ConcN (sumTo upd sumTo_upd upd_ne upd_same)
set_option linter.unusedVariables false
theorem ofoldl_eq {α β : Type} {f g : α → β → α} (h : ∀ x b,f x b = g x b) : ∀ (l : List β) (x : α),l.foldl f x = l.foldl g x:=by
 intro l
 induction l with
 | nil=>intro x; rfl
 | cons a l ih=>intro x; rw [List.foldl_cons,List.foldl_cons,h,ih]
def ostp (x : OS × List Nat) (i : Nat) : OS × List Nat:=if stv (x.1.st i) = 0 ∨ stv (x.1.st i) = 1 then (OS.step x.1 i,x.2 ++ [i]) else x
def opk (n : Nat) (x : OS × List Nat) (p : Int) : OS × List Nat:=if n = 0 then x else ostp x (pidx n p)
def ornd (n : Nat) (x : OS × List Nat) : OS × List Nat:=(List.range n).foldl (ostp) x
def ornds (n : Nat) : Nat → OS × List Nat → OS × List Nat
 | 0,x=>x
 | m + 1,x=>if (ornd n x).2.length = x.2.length then ornd n x else ornds n m (ornd n x)
theorem ornd_eq (n : Nat) (D : Od) (C : Cw) (x : OS × List Nat) : rnd (Uon D C) n x = ornd n x:=ofoldl_eq (fun x b=>rfl) _ _
theorem ornds_eq (n : Nat) (D : Od) (C : Cw) (R : Nat) : ∀ x : OS × List Nat,rnds (Uon D C) n R x = ornds n R x:=by
 induction R with
 | zero=>intro x; rfl
 | succ R ih =>
   intro x
   have e:=ornd_eq n D C x
   show (if (rnd (Uon D C) n x).2.length = x.2.length then rnd (Uon D C) n x else rnds (Uon D C) n R (rnd (Uon D C) n x)) = if (ornd n x).2.length = x.2.length then ornd n x else ornds n R (ornd n x)
   rw [e]
   by_cases h : (ornd n x).2.length = x.2.length
   · exact (if_pos h).trans (if_pos h).symm
   · exact (if_neg h).trans ((ih _).trans (if_neg h).symm)
theorem orun_eq (n : Nat) (D : Od) (C : Cw) (R : Nat) (x : OS × List Nat) (ps : List Int) : rnds (Uon D C) n R (ps.foldl (pk (Uon D C) n) x) = ornds n R (ps.foldl (opk n) x):=by
 have h : ps.foldl (pk (Uon D C) n) x = ps.foldl (opk n) x:=ofoldl_eq (fun x b=>rfl) _ _
 exact (congrArg (rnds (Uon D C) n R) h).trans (ornds_eq n D C R _)
structure Go (n : Nat) (r : Nat → Nat) (x : OS × List Nat) : Prop where
 st : ∀ i,i < n → min (r i) 2 ≤ x.1.st i ∧ x.1.st i ≤ 2
 c : x.1.c = true ↔ ∃ i,i < n ∧ x.1.st i = 2
section
variable {n : Nat}
theorem ostv_run {n : Nat} (h : n ≤ 2) : (stv n = 0 ∨ stv n = 1) ↔ n < 2:=by
 rcases n with _ | _ | _ | n
 · simp [stv]
 · simp [stv]
 · simp [stv]
 · omega
theorem go_step {r : Nat → Nat} {x : OS × List Nat} {k : Nat} (hk : k < n) (G : Go n r x) : Go n (upd r k (r k + 1)) (ostp x k):=by
 have hk2:=G.st k hk
 unfold ostp
 by_cases hc : stv (x.1.st k) = 0 ∨ stv (x.1.st k) = 1
 · rw [if_pos hc]
   have hlt : x.1.st k < 2:=(ostv_run hk2.2).1 hc
   show Go n _ (OS.step x.1 k,x.2 ++ [k])
   by_cases h0 : x.1.st k = 0
   · have e : OS.step x.1 k = { x.1 with st:=upd x.1.st k 1 }:=if_pos h0
     rw [e]
     refine ⟨fun i hi=>?_,?_⟩
     · show min (upd r k (r k + 1) i) 2 ≤ upd x.1.st k 1 i ∧ upd x.1.st k 1 i ≤ 2
       by_cases e : i = k
       · subst e; rw [upd_same,upd_same]; omega
       · rw [upd_ne _ _ e,upd_ne _ _ e]; exact G.st i hi
     · show x.1.c = true ↔ ∃ i,i < n ∧ upd x.1.st k 1 i = 2
       rw [G.c]
       constructor
       · rintro ⟨i,hi,h⟩
         exact ⟨i,hi,by rw [upd_ne _ _ (fun e=>by rw [e,h0] at h; omega)]; exact h⟩
       · rintro ⟨i,hi,h⟩
         by_cases e : i = k
         · subst e; rw [upd_same] at h; omega
         · rw [upd_ne _ _ e] at h; exact ⟨i,hi,h⟩
   · have h1 : x.1.st k = 1:=by omega
     have e : OS.step x.1 k = { st:=upd x.1.st k 2,c:=true }:=if_neg h0
     rw [e]
     refine ⟨fun i hi=>?_,?_⟩
     · show min (upd r k (r k + 1) i) 2 ≤ upd x.1.st k 2 i ∧ upd x.1.st k 2 i ≤ 2
       by_cases e : i = k
       · subst e; rw [upd_same,upd_same]; omega
       · rw [upd_ne _ _ e,upd_ne _ _ e]; exact G.st i hi
     · exact ⟨fun _=>⟨k,hk,upd_same _ _ _⟩,fun _=>rfl⟩
 · rw [if_neg hc]
   have hge : ¬ x.1.st k < 2:=fun h=>hc ((ostv_run hk2.2).2 h)
   refine ⟨fun i hi=>?_,G.c⟩
   by_cases e : i = k
   · subst e; rw [upd_same]; omega
   · rw [upd_ne _ _ e]; exact G.st i hi
theorem go_mono {r r' : Nat → Nat} {x : OS × List Nat} (G : Go n r x) (h : ∀ i,i < n → min (r' i) 2 ≤ min (r i) 2) : Go n r' x:=⟨fun i hi=>⟨Nat.le_trans (h i hi) (G.st i hi).1,(G.st i hi).2⟩,G.c⟩
theorem opidx_lt {n : Nat} (h : 0 < n) (p : Int) : pidx n p < n:=by
 unfold pidx
 have h1 : -(n : Int) < p.tmod n:=by
   have:=Int.lt_tmod_of_pos p (show (0 : Int) < n by omega)
   omega
 have h2 : 0 ≤ p.tmod n + n:=by omega
 rw [Int.tmod_eq_emod_of_nonneg h2]
 have h3:=Int.emod_lt_of_pos (p.tmod n + n) (show (0 : Int) < n by omega)
 have h4:=Int.emod_nonneg (p.tmod n + n) (show (n : Int) ≠ 0 by omega)
 omega
theorem go_picks (ps : List Int) : ∀ x : OS × List Nat,Go n (fun _=>0) x → Go n (fun _=>0) (ps.foldl (opk n) x):=by
 induction ps with
 | nil=>intro x G; exact G
 | cons p ps ih =>
   intro x G
   rw [List.foldl_cons]
   refine ih _ ?_
   unfold opk
   by_cases h0 : n = 0
   · rw [if_pos h0]; exact G
   · rw [if_neg h0]
     exact go_mono (go_step (opidx_lt (by omega) p) G) fun i hi=>by omega
theorem go_fold (r : Nat) : ∀ (m : Nat) (x : OS × List Nat),m ≤ n → Go n (fun _=>r) x → Go n (fun i=>if i < m then r + 1 else r) ((List.range m).foldl (ostp) x):=by
 intro m
 induction m with
 | zero=>intro x _ G; exact go_mono G fun i hi=>by rw [if_neg (by omega)]; exact Nat.le_refl _
 | succ m ih =>
   intro x hm G
   rw [List.range_succ,List.foldl_append]
   have G1:=go_step (k:=m) (by omega) (ih x (by omega) G)
   refine go_mono G1 fun i hi=>?_
   by_cases e : i = m
   · subst e
     rw [upd_same,if_neg (show ¬ i < i by omega),if_pos (by omega)]
     exact Nat.le_refl _
   · rw [upd_ne _ _ e]
     by_cases h : i < m
     · rw [if_pos h,if_pos (by omega)]; exact Nat.le_refl _
     · rw [if_neg h,if_neg (by omega)]; exact Nat.le_refl _
theorem go_rnd {r : Nat} {x : OS × List Nat} (G : Go n (fun _=>r) x) : Go n (fun _=>r + 1) (ornd n x) :=
 go_mono (go_fold r n x (Nat.le_refl _) G) fun i hi=>by rw [if_pos hi]; exact Nat.le_refl _
theorem ostp_len (x : OS × List Nat) (i : Nat) : x.2.length ≤ (ostp x i).2.length:=by
 unfold ostp
 split
 · simp
 · exact Nat.le_refl _
theorem ofold_len : ∀ (l : List Nat) (x : OS × List Nat),x.2.length ≤ (l.foldl (ostp) x).2.length:=by
 intro l
 induction l with
 | nil=>intro x; exact Nat.le_refl _
 | cons k l ih=>intro x; rw [List.foldl_cons]; exact Nat.le_trans (ostp_len x k) (ih _)
theorem ofold_still : ∀ (l : List Nat) (x : OS × List Nat),(l.foldl (ostp) x).2.length = x.2.length → ∀ k ∈ l,¬ (stv (x.1.st k) = 0 ∨ stv (x.1.st k) = 1):=by
 intro l
 induction l with
 | nil=>intro x _ k hk; cases hk
 | cons a l ih =>
   intro x h k hk
   rw [List.foldl_cons] at h
   have h1:=ofold_len l (ostp x a)
   have ha : ¬ (stv (x.1.st a) = 0 ∨ stv (x.1.st a) = 1):=fun hc=>by
     have e : ostp x a = (OS.step x.1 a,x.2 ++ [a]):=if_pos hc
     rw [e] at h1 h
     simp only [List.length_append,List.length_cons,List.length_nil] at h1
     omega
   have e : ostp x a = x:=if_neg ha
   rw [e] at h
   rcases List.mem_cons.1 hk with rfl | hk
   · exact ha
   · exact ih x h k hk
theorem go_rnds : ∀ (m r : Nat) (x : OS × List Nat),Go n (fun _=>r) x → 2 ≤ r + m → Go n (fun _=>2) (ornds n m x):=by
 intro m
 induction m with
 | zero=>intro r x G h; exact go_mono G fun i hi=>by omega
 | succ m ih =>
   intro r x G h
   have G1:=go_rnd G
   show Go n _ (if (ornd n x).2.length = x.2.length then ornd n x else ornds n m (ornd n x))
   by_cases hl : (ornd n x).2.length = x.2.length
   · have e : (if (ornd n x).2.length = x.2.length then ornd n x else ornds n m (ornd n x)) = ornd n x:=if_pos hl
     rw [e]
     have hs : ∀ k,k < n → x.1.st k = 2:=fun k hk=>by
       have h1:=ofold_still (List.range n) x hl k (List.mem_range.2 hk)
       have h2:=(G.st k hk).2
       have h3 : ¬ x.1.st k < 2:=fun h=>h1 ((ostv_run h2).2 h)
       omega
     have G2 : Go n (fun _=>2) x:=⟨fun i hi=>by rw [hs i hi]; omega,G.c⟩
     exact go_mono (go_rnd G2) fun i hi=>by omega
   · have e : (if (ornd n x).2.length = x.2.length then ornd n x else ornds n m (ornd n x)) = ornds n m (ornd n x):=if_neg hl
     rw [e]
     exact ih (r + 1) _ G1 (by omega)
theorem once_law (ps : List Int) : (ornds n 3 (ps.foldl (opk n) ((⟨fun _=>0,false⟩ : OS),([] : List Nat)))).1.c = decide (0 < n):=by
 have G0 : Go n (fun _=>0) ((⟨fun _=>0,false⟩ : OS),([] : List Nat)):=⟨fun i hi=>⟨by show min 0 2 ≤ 0; omega,Nat.zero_le _⟩,by
   constructor
   · intro h; cases h
   · rintro ⟨i,hi,h⟩
     have : (0 : Nat) = 2:=h
     omega⟩
 have G:=go_rnds 3 0 _ (go_picks ps _ G0) (by omega)
 by_cases h : 0 < n
 · rw [decide_eq_true h]
   exact G.c.2 ⟨0,h,by have:=G.st 0 h; omega⟩
 · rw [decide_eq_false h]
   cases hc : (ornds n 3 (ps.foldl (opk n) ((⟨fun _=>0,false⟩ : OS),([] : List Nat)))).1.c with
   | false=>rfl
   | true =>
     obtain ⟨i,hi,_⟩:=G.c.1 hc
     omega
end
end Go.Proofs.Ytibcdikfbhmheaa

namespace Go.Proofs.Ytibcdikfbhmheaa
open Go Go.Conc Go.Proofs
open Go.ConcN (sumTo upd sumTo_upd upd_ne upd_same)
set_option linter.unusedVariables false
def Fxg : List (Nat × Value) → Array Value → Prop
 | [],_=>True
 | (j,v) :: l,T=>T[j]? = some v ∧ Fxg l T
def Fg (z : Nat) (l : List (Nat × Value)) (T : Array Value) : Prop:=T.size = z ∧ Fxg l T
theorem reg_go {Post : Value → World → Prop} {Z : Cuts} {V V1 : World} {F z : Nat} {l : List (Nat × Value)} {T : Array Value} {c : Code} {kt : List Item} {cs : List Frame} (hf : ∃ fn,Try.prog.funcs[F]? = some fn) (hs : shut Try.prog Lone [] c = true)
   (K : ∀ T',Fg z l T' → To0 Try.prog Post Z V1 (G ((base F).at ⟨T',[]⟩ kt) cs)) (hC : ∀ τ,c.wp Try.prog (fun e a' w'=>match e with | .normal=>(norm w' = V1 ∧ Fg z l a'.tmps) ∧ a'.defers = [] | _=>False) ⟨T,[]⟩ (re V τ 0)) : To0 Try.prog Post Z V (G ((base F).at ⟨T,[]⟩ (.code c :: kt)) cs) :=
 To0.walk (will_code (L:=Lone) (R:=fun aa V'=>V' = V1 ∧ Fg z l aa.tmps) calm rfl hf rfl hs hC fun a' V' ⟨q0,gs⟩ ha'=>Will.stop (by
   obtain ⟨T',df⟩:=a'
   simp only at ha' gs
   subst ha' q0
   exact K T' gs))
theorem reg_gb {Post : Value → World → Prop} {Z : Cuts} {V V1 : World} {F z j : Nat} {x : Bool} {l : List (Nat × Value)} {T : Array Value} {c : Code} {kt : List Item} {cs : List Frame} (hf : ∃ fn,Try.prog.funcs[F]? = some fn) (hs : shut Try.prog Lone [] c = true)
   (K : ∀ T',Fg z l T' → T'[j]? = some (.bool x) → To0 Try.prog Post Z V1 (G ((base F).at ⟨T',[]⟩ kt) cs)) (hC : ∀ τ,c.wp Try.prog (fun e a' w'=>match e with | .normal=>(norm w' = V1 ∧ Fg z l a'.tmps ∧ a'.tmps[j]? = some (.bool x)) ∧ a'.defers = [] | _=>False) ⟨T,[]⟩ (re V τ 0)) : To0 Try.prog Post Z V (G ((base F).at ⟨T,[]⟩ (.code c :: kt)) cs) :=
 To0.walk (will_code (L:=Lone) (R:=fun aa V'=>V' = V1 ∧ Fg z l aa.tmps ∧ aa.tmps[j]? = some (.bool x)) calm rfl hf rfl hs hC fun a' V' ⟨q0,gs,gb⟩ ha'=>Will.stop (by
   obtain ⟨T',df⟩:=a'
   simp only at ha' gs gb
   subst ha' q0
   exact K T' gs gb))
end Go.Proofs.Ytibcdikfbhmheaa
