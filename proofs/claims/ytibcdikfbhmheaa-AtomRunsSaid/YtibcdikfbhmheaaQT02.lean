import Derived.Test.YtibcdikfbhmheaaB16
import Derived.Conc.AtomicLaws2
import Derived.Test.YtibcdikfbhmheaaB20
import Derived.Test.YtibcdikfbhmheaaB17
import Derived.Test.YtibcdikfbhmheaaB13
import Derived.Test.YtibcdikfbhmheaaB22
set_option linter.unusedSimpArgs false
set_option linter.unusedVariables false
set_option maxRecDepth 100000
set_option maxHeartbeats 4000000
namespace Go.Proofs.Ytibcdikfbhmheaa
open Go Go.Conc Go.Proofs
open Go.ConcN (sumTo upd sumTo_upd upd_ne upd_same)
set_option linter.unusedVariables false
section
variable {P : Program} {main : Bool} {Z : Cuts} {Stop : Goroutine → World → Prop} {V : World} {g g' : Goroutine}
theorem will_atr (hr : g.status = .running) {ad : Addr} {v : Value} (hc : V.cell? ad = some v) (hs : ∀ w,w.cell? ad = some v → stepG P main g w = .go g' w #[⟨.cell ad,false,true⟩]) (h : Will P main Z Stop g' V) : Will P main Z Stop g V:=by
 refine .step hr (fun w hV hf=>?_) fun w g2 w2 es hV hf hst=>?_
 · subst hV
   obtain ⟨h1,h2,_,_,h6⟩:=cell_of_norm (W:=pz Z w) (w:=w) rfl hc
   exact ⟨g',w,_,hs w h1,Hidden.refl w,hf,fun e he=>by
     obtain rfl:=Array.mem_singleton.1 he
     exact ⟨h2,fun k lo hi hz=>⟨h6 k lo hi hz,fun x=>by cases x⟩⟩⟩
 · subst hV
   obtain ⟨h1,_⟩:=cell_of_norm (W:=pz Z w) (w:=w) rfl hc
   rw [hs w h1] at hst
   injection hst with e1 e2 e3
   subst e1 e2
   exact h
theorem will_atw (hr : g.status = .running) {ad : Addr} {v : Value} {k : IntKind} {y : Int} (hc : V.cell? ad = some v) (hz : V.frozen? ad = false) (hs : ∀ w,w.cell? ad = some v → w.frozen? ad = false → stepG P main g w = .go g' (w.setCell ad (.int k y)) #[⟨.cell ad,false,true⟩,⟨.cell ad,true,true⟩])
   (h : Will P main Z Stop g' (V.setCell ad (.int k y))) : Will P main Z Stop g V:=by
 have key : ∀ w,pz Z w = V → Fit P Z w → stepG P main g w = .go g' (w.setCell ad (.int k y)) #[⟨.cell ad,false,true⟩,⟨.cell ad,true,true⟩] ∧ Hidden Z w (w.setCell ad (.int k y)) ∧ Fit P Z (w.setCell ad (.int k y)) ∧ (∀ e ∈ (#[⟨.cell ad,false,true⟩,⟨.cell ad,true,true⟩] : Array Event),EvZ Z (w.setCell ad (.int k y)).heap.size e) ∧ pz Z (w.setCell ad (.int k y)) = V.setCell ad (.int k y):=fun w hV hf=>by
   subst hV
   obtain ⟨h1,h2,h3,⟨c,e,f,h4,h5⟩,h6⟩:=cell_of_norm (W:=pz Z w) (w:=w) rfl hc
   obtain ⟨h7,h8⟩:=frozen_of_norm (W:=pz Z w) (w:=w) rfl hf h4 hz
   have hsim:=sim_store (P:=P) (Z:=Z) (a:=ad) (v:=.int k y) (m:=.atomic) (pz Z w) w #[] rfl hf
   have hrun : (store ad (.int k y) .atomic).run P (pz Z w) = .ok () ((pz Z w).setCell ad (.int k y)):=by
     simp [store,Sem.run,hc,hz]
   rw [hrun] at hsim
   obtain ⟨_,_,_,hgo⟩:=hsim
   obtain ⟨w',es',e',o⟩:=hgo (fun j hj=>absurd hj (by show ¬ (pz Z w).drawn + j < (pz Z w).drawn; omega))
   have hrunT : (store ad (.int k y) .atomic).runT P w #[] = (.ok () (w.setCell ad (.int k y)),#[⟨.cell ad,true,true⟩]):=by
     simp [store,Sem.runT,h1,h7,-Sem.runT_eq]
   rw [hrunT] at e'
   obtain ⟨e1,e2⟩:=Prod.mk.inj e'
   injection e1 with _ e1
   subst e1
   refine ⟨hs w h1 h7,o.hid,o.fit,fun ev he=>?_,o.rl.symm⟩
   have hsz : (w.setCell ad (.int k y)).heap.size = w.heap.size:=size_setCell _ _ _
   simp only [List.mem_toArray,List.mem_cons,List.not_mem_nil,or_false] at he
   rcases he with rfl | rfl
   · exact ⟨by rw [hsz]; exact h2,fun k lo hi hz=>⟨h6 k lo hi hz,fun x=>by cases x⟩⟩
   · exact ⟨by rw [hsz]; exact h2,fun k lo hi hz=>⟨h6 k lo hi hz,fun _=>h8 k lo hi hz⟩⟩
 refine .step hr (fun w hV hf=>?_) fun w g2 w2 es hV hf hst=>?_
 · obtain ⟨a1,a2,a3,a4,_⟩:=key w hV hf
   exact ⟨g',_,_,a1,a2,a3,a4⟩
 · obtain ⟨a1,_,_,_,a5⟩:=key w hV hf
   rw [a1] at hst
   injection hst with e1 e2 e3
   subst e1 e2
   rw [a5]
   exact h
end
section
variable {main : Bool} {Z : Cuts} {Stop : Goroutine → World → Prop} {V : World} {b : Frame} {a : Act} {ops : Array Oper} {i : Nat} {rest : List Nat} {k : List Item} {cs : List Frame} {o : Oper} {ats : Array TypeId}
theorem at_load (ho : ops[i]? = some o) (hw : Region.wanted o (yielded ops a.tmps) = true) (hk : b.kind ≠ .early) {x : Operand} (hop : o.op = .call { callee:=.value (.func 119),args:=#[x],argTypes:=ats }) {ad : Addr} {v : Int} (hx : a.eval x = .pointer (some ad)) (hc : V.cell? ad = some (.int .i64 v))
   (h : Will Try.prog main Z Stop (G (b.at (a.put o.dst (.int .i64 v)) (.inRegion ops rest :: k)) cs) V) : Will Try.prog main Z Stop (G (b.at a (.inRegion ops (i :: rest) :: k)) cs) V :=
 will_atr rfl hc (fun w hcw=>stepG_load_atomic ho hw hk hop Try.func119 (by kernel_rfl) (by kernel_rfl) (by kernel_rfl) .i64 (by kernel_rfl) hx hcw) h
theorem at_add (ho : ops[i]? = some o) (hw : Region.wanted o (yielded ops a.tmps) = true) (hk : b.kind ≠ .early) {x y : Operand} (hop : o.op = .call { callee:=.value (.func 120),args:=#[x,y],argTypes:=ats }) {ad : Addr} {v d : Int} (hx : a.eval x = .pointer (some ad)) (hy : a.eval y = .int .i64 d) (hc : V.cell? ad = some (.int .i64 v)) (hz : V.frozen? ad = false)
   (h : Will Try.prog main Z Stop (G (b.at (a.put o.dst (.int .i64 (IntKind.i64.wrap (v + d)))) (.inRegion ops rest :: k)) cs) (V.setCell ad (.int .i64 (IntKind.i64.wrap (v + d))))) : Will Try.prog main Z Stop (G (b.at a (.inRegion ops (i :: rest) :: k)) cs) V :=
 will_atw rfl hc hz (fun w hcw hzw=>stepG_add_atomic ho hw hk hop Try.func120 (by kernel_rfl) (by kernel_rfl) (by kernel_rfl) .i64 (by kernel_rfl) hx hy hcw hzw) h
theorem at_cas (ho : ops[i]? = some o) (hw : Region.wanted o (yielded ops a.tmps) = true) (hk : b.kind ≠ .early) {x y z : Operand} (hop : o.op = .call { callee:=.value (.func 125),args:=#[x,y,z],argTypes:=ats }) {ad : Addr} {v n : Int} (hx : a.eval x = .pointer (some ad)) (hy : a.eval y = .int .i64 v) (hzz : a.eval z = .int .i64 n) (hc : V.cell? ad = some (.int .i64 v)) (hz : V.frozen? ad = false)
   (h : Will Try.prog main Z Stop (G (b.at (a.put o.dst (.bool true)) (.inRegion ops rest :: k)) cs) (V.setCell ad (.int .i64 n))) : Will Try.prog main Z Stop (G (b.at a (.inRegion ops (i :: rest) :: k)) cs) V :=
 will_atw rfl hc hz (fun w hcw hzw=>stepG_cas_hit ho hw hk hop Try.func125 (by kernel_rfl) (by kernel_rfl) (by kernel_rfl) .i64 (by kernel_rfl) hx hy hzz hcw hzw) h
end
end Go.Proofs.Ytibcdikfbhmheaa

namespace Go.Proofs.Ytibcdikfbhmheaa
open Go Go.Conc Go.Proofs
open Go.ConcN (sumTo upd sumTo_upd upd_ne upd_same)
set_option linter.unusedVariables false
structure Ad where
 n : Nat
 d : Nat → Int
 ab : Nat
 lbx : Nat
 ibx : Nat → Nat
 la : Option Addr
 ln : Nat
 lc : Nat
 Vr : World
structure AS where
 st : Nat → Nat
 v : Int
def AS.step (D : Ad) (s : AS) (i : Nat) : AS:=if s.st i = 0 then { s with st:=upd s.st i 1 } else { st:=upd s.st i 2,v:=IntKind.i64.wrap (s.v + D.d i) }
noncomputable def B34 : Code:=Try.f34.body.getD .skip
noncomputable def A3 : Code:=nvb (nvb B34)
noncomputable def A4 : Code:=nvb A3
section
variable {D : Ad} {C : Cw} {E : Env} {i : Nat} {own : Nat → Prop} {V : World} {σ : AS} {a₁ : Act} {ops₁ : Array Oper} {i₁ : Nat} {rest₁ : List Nat} {k₁ : List Item}
end
end Go.Proofs.Ytibcdikfbhmheaa

namespace Go.Proofs.Ytibcdikfbhmheaa
open Go Go.Conc Go.Proofs
open Go.ConcN (sumTo upd sumTo_upd upd_ne upd_same)
set_option linter.unusedVariables false
theorem kp_set {V V1 : World} (h : Kp V V1) {b k : Nat} {v : Value} (hb : V.heap.size ≤ b) : Kp V (V1.setCell ⟨b,k,none⟩ v):=⟨by rw [size_setCell]; exact h.size,fun x hx=>by rw [setCell_heap,if_neg (show ¬ x = b by omega)]; exact h.keep x hx⟩
section
variable {V : World} {Z : Cuts} {Post : Value → World → Prop} {b₀ : Frame} {a₀ : Act} {ops₀ : Array Oper} {i₀ : Nat} {rest₀ : List Nat} {k₀ : List Item} {cs0 : List Frame}
theorem live28_go (hn : norm V = V)
   (K0 : ∀ V',norm V' = V' → Kp V V' → To0 Try.prog Post Z V' (G (b₀.at (a₀.put ((ops₀[i₀]?).bind (·.dst)) (.bool true)) (.inRegion ops₀ rest₀ :: k₀)) cs0)) :
   To0 Try.prog Post Z V (G (Frame.enter Try.prog 28 #[] .normal) (b₀.at a₀ (.inRegion ops₀ (i₀ :: rest₀) :: k₀) :: cs0)):=by
 rw [enter_at (P:=Try.prog) _ Try.func28 rfl]
 simp only [Try.f28]
 walk_nrm
 obtain ⟨K,hK,hV,key,yek⟩:=kKV (L:=Lone) (J:=fun g=>To0 Try.prog Post Z V g) mu_to0 (muv_to0 hn)
 refine key _ ?_
 repeat (first|(with_reducible first|refine mu_seq hK ?_|refine mu_skip hK ?_|(refine mu_region_end hK ?_;try subst hkk)|refine mu_block hK ?_|refine mu_inBlock hK ?_|refine mu_ret hK ?_|refine mu_end hK ?_)|refine mu_exit hK rfl ?_|(with_reducible refine mu_regionH hK (fun kk hkk=>?_);simp only [List.size_toArray,List.length_cons,List.length_nil,Nat.reduceAdd,Nat.zero_add,List.range,List.range.loop])|(with_reducible refine mu_cf hK ?_ ?_;(· first|(walk_nrm;done)|(simp [Act.eval];done)))|(with_reducible refine mu_ct hK ?_ ?_;(· first|(walk_nrm;done)|(simp [Act.eval];done)))|(refine mu_unwanted hK rfl rfl ?_;walk_nrm)|(refine muv_val hV rfl (by first|exact .inl rfl|exact .inr rfl) rfl (by kernel_rfl) (fun J hJ=>?_);go_simp;with_reducible refine hJ _ ?_;clear hJ J;walk_nrm))
 refine yek _ ?_
 clear hK hV key yek K
 have hn1 : norm (V.alloc (.cells #[.int .i64 0] 64)) = (V.alloc (.cells #[.int .i64 0] 64)):=norm_al hn _
 refine mua_put (L:=Lone) (v:=.pointer (some ⟨V.heap.size,0,none⟩)) (mua_to0 hn1) (K:=fun g=>To0 Try.prog Post Z V g) (K':=fun g=>To0 Try.prog Post Z (V.alloc (.cells #[.int .i64 0] 64)) g) rfl (.inl rfl) rfl (by kernel_rfl) (fun τ=>?_) ?_
 · go_simp
   first | exact ⟨by first | rfl | assumption | (simp only [re]; omega),rfl⟩ | rfl | (simp; done)
 have sV1 : (V.alloc (.cells #[.int .i64 0] 64)).heap.size = V.heap.size + 1:=al_size _ _
 have kV1 : Kp V (V.alloc (.cells #[.int .i64 0] 64)):=kp_alloc _ _
 have rV1 : (V.alloc (.cells #[.int .i64 0] 64)).heap[V.heap.size]? = some (.cells #[.int .i64 0] 64):=by rw [al_get,if_pos rfl]
 generalize (V.alloc (.cells #[.int .i64 0] 64)) = V1 at *
 walk_nrm
 obtain ⟨R,eR⟩ : ∃ R,R = V.heap.size:=⟨_,rfl⟩
 rw [← eR] at rV1 ⊢
 have eR1 : V.heap.size ≤ R:=by omega
 clear eR
 have cV1 : V1.cell? ⟨R,0,none⟩ = some (.int .i64 0):=cell_of rV1 (by simp)
 have zV1 : V1.frozen? ⟨R,0,none⟩ = false:=by simp [World.frozen?,rV1]
 obtain ⟨K,hK,hV,key,yek⟩:=kKV (L:=Lone) (J:=fun g=>To0 Try.prog Post Z V1 g) mu_to0 (muv_to0 hn1)
 refine key _ ?_
 repeat (first|(with_reducible first|refine mu_seq hK ?_|refine mu_skip hK ?_|(refine mu_region_end hK ?_;try subst hkk)|refine mu_block hK ?_|refine mu_inBlock hK ?_|refine mu_ret hK ?_|refine mu_end hK ?_)|refine mu_exit hK rfl ?_|(with_reducible refine mu_regionH hK (fun kk hkk=>?_);simp only [List.size_toArray,List.length_cons,List.length_nil,Nat.reduceAdd,Nat.zero_add,List.range,List.range.loop])|(with_reducible refine mu_cf hK ?_ ?_;(· first|(walk_nrm;done)|(simp [Act.eval];done)))|(with_reducible refine mu_ct hK ?_ ?_;(· first|(walk_nrm;done)|(simp [Act.eval];done)))|(refine mu_unwanted hK rfl rfl ?_;walk_nrm)|(refine muv_val hV rfl (by first|exact .inl rfl|exact .inr rfl) rfl (by kernel_rfl) (fun J hJ=>?_);go_simp;with_reducible refine hJ _ ?_;clear hJ J;walk_nrm))
 refine mu_call hK rfl rfl (by decide) rfl Try.func34 (by kernel_rfl) rfl ?_
 have hnt34 : Try.f34.ntmps = 16:=rfl
 rw [hnt34]
 clear hnt34
 walk_nrm
 repeat (first|(with_reducible first|refine mu_seq hK ?_|refine mu_skip hK ?_|(refine mu_region_end hK ?_;try subst hkk)|refine mu_block hK ?_|refine mu_inBlock hK ?_|refine mu_ret hK ?_|refine mu_end hK ?_)|refine mu_exit hK rfl ?_|(with_reducible refine mu_regionH hK (fun kk hkk=>?_);simp only [List.size_toArray,List.length_cons,List.length_nil,Nat.reduceAdd,Nat.zero_add,List.range,List.range.loop])|(with_reducible refine mu_cf hK ?_ ?_;(· first|(walk_nrm;done)|(simp [Act.eval];done)))|(with_reducible refine mu_ct hK ?_ ?_;(· first|(walk_nrm;done)|(simp [Act.eval];done)))|(refine mu_unwanted hK rfl rfl ?_;walk_nrm)|(refine muv_val hV rfl (by first|exact .inl rfl|exact .inr rfl) rfl (by kernel_rfl) (fun J hJ=>?_);go_simp;with_reducible refine hJ _ ?_;clear hJ J;walk_nrm))
 refine mu_call hK rfl rfl (by decide) rfl Try.func24 (by kernel_rfl) rfl ?_
 have hnt24 : Try.f24.ntmps = 6:=rfl
 rw [hnt24]
 clear hnt24
 walk_nrm
 repeat (first|(with_reducible first|refine mu_seq hK ?_|refine mu_skip hK ?_|(refine mu_region_end hK ?_;try subst hkk)|refine mu_block hK ?_|refine mu_inBlock hK ?_|refine mu_ret hK ?_|refine mu_end hK ?_)|refine mu_exit hK rfl ?_|(with_reducible refine mu_regionH hK (fun kk hkk=>?_);simp only [List.size_toArray,List.length_cons,List.length_nil,Nat.reduceAdd,Nat.zero_add,List.range,List.range.loop])|(with_reducible refine mu_cf hK ?_ ?_;(· first|(walk_nrm;done)|(simp [Act.eval];done)))|(with_reducible refine mu_ct hK ?_ ?_;(· first|(walk_nrm;done)|(simp [Act.eval];done)))|(refine mu_unwanted hK rfl rfl ?_;walk_nrm)|(refine muv_val hV rfl (by first|exact .inl rfl|exact .inr rfl) rfl (by kernel_rfl) (fun J hJ=>?_);go_simp;with_reducible refine hJ _ ?_;clear hJ J;walk_nrm))
 refine mu_leave0 hK rfl rfl Try.func24 rfl ?_
 walk_nrm
 repeat (first|(with_reducible first|refine mu_seq hK ?_|refine mu_skip hK ?_|(refine mu_region_end hK ?_;try subst hkk)|refine mu_block hK ?_|refine mu_inBlock hK ?_|refine mu_ret hK ?_|refine mu_end hK ?_)|refine mu_exit hK rfl ?_|(with_reducible refine mu_regionH hK (fun kk hkk=>?_);simp only [List.size_toArray,List.length_cons,List.length_nil,Nat.reduceAdd,Nat.zero_add,List.range,List.range.loop])|(with_reducible refine mu_cf hK ?_ ?_;(· first|(walk_nrm;done)|(simp [Act.eval];done)))|(with_reducible refine mu_ct hK ?_ ?_;(· first|(walk_nrm;done)|(simp [Act.eval];done)))|(refine mu_unwanted hK rfl rfl ?_;walk_nrm)|(refine muv_val hV rfl (by first|exact .inl rfl|exact .inr rfl) rfl (by kernel_rfl) (fun J hJ=>?_);go_simp;with_reducible refine hJ _ ?_;clear hJ J;walk_nrm))
 refine mu_call hK rfl rfl (by decide) rfl Try.func83 (by kernel_rfl) rfl ?_
 have hnt83 : Try.f83.ntmps = 10:=rfl
 rw [hnt83]
 clear hnt83
 walk_nrm
 repeat (first|(with_reducible first|refine mu_seq hK ?_|refine mu_skip hK ?_|(refine mu_region_end hK ?_;try subst hkk)|refine mu_block hK ?_|refine mu_inBlock hK ?_|refine mu_ret hK ?_|refine mu_end hK ?_)|refine mu_exit hK rfl ?_|(with_reducible refine mu_regionH hK (fun kk hkk=>?_);simp only [List.size_toArray,List.length_cons,List.length_nil,Nat.reduceAdd,Nat.zero_add,List.range,List.range.loop])|(with_reducible refine mu_cf hK ?_ ?_;(· first|(walk_nrm;done)|(simp [Act.eval];done)))|(with_reducible refine mu_ct hK ?_ ?_;(· first|(walk_nrm;done)|(simp [Act.eval];done)))|(refine mu_unwanted hK rfl rfl ?_;walk_nrm)|(refine muv_val hV rfl (by first|exact .inl rfl|exact .inr rfl) rfl (by kernel_rfl) (fun J hJ=>?_);go_simp;with_reducible refine hJ _ ?_;clear hJ J;walk_nrm))
 refine yek _ ?_
 clear hK hV key yek K
 refine To0.walk (at_add (main:=true) (ad:=⟨R,0,none⟩) (v:=0) (d:=5) rfl rfl (base_ne _) rfl rfl rfl cV1 zV1 (Will.stop ?_))
 rw [show IntKind.i64.wrap (0 + 5) = 5 by decide]
 have hn2 : norm (V1.setCell ⟨R,0,none⟩ (.int .i64 5)) = (V1.setCell ⟨R,0,none⟩ (.int .i64 5)):=norm_set hn1 _ _
 have kV2 : Kp V (V1.setCell ⟨R,0,none⟩ (.int .i64 5)):=kp_set kV1 (by omega)
 have rV2 : (V1.setCell ⟨R,0,none⟩ (.int .i64 5)).heap[R]? = some (.cells #[.int .i64 5] 64 (0,0)):=by rw [setCell_heap,if_pos rfl,rV1]; simp
 generalize (V1.setCell ⟨R,0,none⟩ (.int .i64 5)) = V2 at *
 have cV2 : V2.cell? ⟨R,0,none⟩ = some (.int .i64 5):=cell_of rV2 (by simp)
 have zV2 : V2.frozen? ⟨R,0,none⟩ = false:=by simp [World.frozen?,rV2]
 walk_nrm
 obtain ⟨K,hK,hV,key,yek⟩:=kKV (L:=Lone) (J:=fun g=>To0 Try.prog Post Z V2 g) mu_to0 (muv_to0 hn2)
 refine key _ ?_
 repeat (first|(with_reducible first|refine mu_seq hK ?_|refine mu_skip hK ?_|(refine mu_region_end hK ?_;try subst hkk)|refine mu_block hK ?_|refine mu_inBlock hK ?_|refine mu_ret hK ?_|refine mu_end hK ?_)|refine mu_exit hK rfl ?_|(with_reducible refine mu_regionH hK (fun kk hkk=>?_);simp only [List.size_toArray,List.length_cons,List.length_nil,Nat.reduceAdd,Nat.zero_add,List.range,List.range.loop])|(with_reducible refine mu_cf hK ?_ ?_;(· first|(walk_nrm;done)|(simp [Act.eval];done)))|(with_reducible refine mu_ct hK ?_ ?_;(· first|(walk_nrm;done)|(simp [Act.eval];done)))|(refine mu_unwanted hK rfl rfl ?_;walk_nrm)|(refine muv_val hV rfl (by first|exact .inl rfl|exact .inr rfl) rfl (by kernel_rfl) (fun J hJ=>?_);go_simp;with_reducible refine hJ _ ?_;clear hJ J;walk_nrm))
 refine mu_leave1 hK rfl rfl Try.func83 rfl ?_
 walk_nrm
 repeat (first|(with_reducible first|refine mu_seq hK ?_|refine mu_skip hK ?_|(refine mu_region_end hK ?_;try subst hkk)|refine mu_block hK ?_|refine mu_inBlock hK ?_|refine mu_ret hK ?_|refine mu_end hK ?_)|refine mu_exit hK rfl ?_|(with_reducible refine mu_regionH hK (fun kk hkk=>?_);simp only [List.size_toArray,List.length_cons,List.length_nil,Nat.reduceAdd,Nat.zero_add,List.range,List.range.loop])|(with_reducible refine mu_cf hK ?_ ?_;(· first|(walk_nrm;done)|(simp [Act.eval];done)))|(with_reducible refine mu_ct hK ?_ ?_;(· first|(walk_nrm;done)|(simp [Act.eval];done)))|(refine mu_unwanted hK rfl rfl ?_;walk_nrm)|(refine muv_val hV rfl (by first|exact .inl rfl|exact .inr rfl) rfl (by kernel_rfl) (fun J hJ=>?_);go_simp;with_reducible refine hJ _ ?_;clear hJ J;walk_nrm))
 refine mu_leave1 hK rfl rfl Try.func34 rfl ?_
 walk_nrm
 repeat (first|(with_reducible first|refine mu_seq hK ?_|refine mu_skip hK ?_|(refine mu_region_end hK ?_;try subst hkk)|refine mu_block hK ?_|refine mu_inBlock hK ?_|refine mu_ret hK ?_|refine mu_end hK ?_)|refine mu_exit hK rfl ?_|(with_reducible refine mu_regionH hK (fun kk hkk=>?_);simp only [List.size_toArray,List.length_cons,List.length_nil,Nat.reduceAdd,Nat.zero_add,List.range,List.range.loop])|(with_reducible refine mu_cf hK ?_ ?_;(· first|(walk_nrm;done)|(simp [Act.eval];done)))|(with_reducible refine mu_ct hK ?_ ?_;(· first|(walk_nrm;done)|(simp [Act.eval];done)))|(refine mu_unwanted hK rfl rfl ?_;walk_nrm)|(refine muv_val hV rfl (by first|exact .inl rfl|exact .inr rfl) rfl (by kernel_rfl) (fun J hJ=>?_);go_simp;with_reducible refine hJ _ ?_;clear hJ J;walk_nrm))
 refine mu_call hK rfl rfl (by decide) rfl Try.func40 (by kernel_rfl) rfl ?_
 have hnt40 : Try.f40.ntmps = 19:=rfl
 rw [hnt40]
 clear hnt40
 walk_nrm
 repeat (first|(with_reducible first|refine mu_seq hK ?_|refine mu_skip hK ?_|(refine mu_region_end hK ?_;try subst hkk)|refine mu_block hK ?_|refine mu_inBlock hK ?_|refine mu_ret hK ?_|refine mu_end hK ?_)|refine mu_exit hK rfl ?_|(with_reducible refine mu_regionH hK (fun kk hkk=>?_);simp only [List.size_toArray,List.length_cons,List.length_nil,Nat.reduceAdd,Nat.zero_add,List.range,List.range.loop])|(with_reducible refine mu_cf hK ?_ ?_;(· first|(walk_nrm;done)|(simp [Act.eval];done)))|(with_reducible refine mu_ct hK ?_ ?_;(· first|(walk_nrm;done)|(simp [Act.eval];done)))|(refine mu_unwanted hK rfl rfl ?_;walk_nrm)|(refine muv_val hV rfl (by first|exact .inl rfl|exact .inr rfl) rfl (by kernel_rfl) (fun J hJ=>?_);go_simp;with_reducible refine hJ _ ?_;clear hJ J;walk_nrm))
 refine mu_call hK rfl rfl (by decide) rfl Try.func24 (by kernel_rfl) rfl ?_
 have hnt24 : Try.f24.ntmps = 6:=rfl
 rw [hnt24]
 clear hnt24
 walk_nrm
 repeat (first|(with_reducible first|refine mu_seq hK ?_|refine mu_skip hK ?_|(refine mu_region_end hK ?_;try subst hkk)|refine mu_block hK ?_|refine mu_inBlock hK ?_|refine mu_ret hK ?_|refine mu_end hK ?_)|refine mu_exit hK rfl ?_|(with_reducible refine mu_regionH hK (fun kk hkk=>?_);simp only [List.size_toArray,List.length_cons,List.length_nil,Nat.reduceAdd,Nat.zero_add,List.range,List.range.loop])|(with_reducible refine mu_cf hK ?_ ?_;(· first|(walk_nrm;done)|(simp [Act.eval];done)))|(with_reducible refine mu_ct hK ?_ ?_;(· first|(walk_nrm;done)|(simp [Act.eval];done)))|(refine mu_unwanted hK rfl rfl ?_;walk_nrm)|(refine muv_val hV rfl (by first|exact .inl rfl|exact .inr rfl) rfl (by kernel_rfl) (fun J hJ=>?_);go_simp;with_reducible refine hJ _ ?_;clear hJ J;walk_nrm))
 refine mu_leave0 hK rfl rfl Try.func24 rfl ?_
 walk_nrm
 repeat (first|(with_reducible first|refine mu_seq hK ?_|refine mu_skip hK ?_|(refine mu_region_end hK ?_;try subst hkk)|refine mu_block hK ?_|refine mu_inBlock hK ?_|refine mu_ret hK ?_|refine mu_end hK ?_)|refine mu_exit hK rfl ?_|(with_reducible refine mu_regionH hK (fun kk hkk=>?_);simp only [List.size_toArray,List.length_cons,List.length_nil,Nat.reduceAdd,Nat.zero_add,List.range,List.range.loop])|(with_reducible refine mu_cf hK ?_ ?_;(· first|(walk_nrm;done)|(simp [Act.eval];done)))|(with_reducible refine mu_ct hK ?_ ?_;(· first|(walk_nrm;done)|(simp [Act.eval];done)))|(refine mu_unwanted hK rfl rfl ?_;walk_nrm)|(refine muv_val hV rfl (by first|exact .inl rfl|exact .inr rfl) rfl (by kernel_rfl) (fun J hJ=>?_);go_simp;with_reducible refine hJ _ ?_;clear hJ J;walk_nrm))
 refine mu_call hK rfl rfl (by decide) rfl Try.func88 (by kernel_rfl) rfl ?_
 have hnt88 : Try.f88.ntmps = 13:=rfl
 rw [hnt88]
 clear hnt88
 walk_nrm
 repeat (first|(with_reducible first|refine mu_seq hK ?_|refine mu_skip hK ?_|(refine mu_region_end hK ?_;try subst hkk)|refine mu_block hK ?_|refine mu_inBlock hK ?_|refine mu_ret hK ?_|refine mu_end hK ?_)|refine mu_exit hK rfl ?_|(with_reducible refine mu_regionH hK (fun kk hkk=>?_);simp only [List.size_toArray,List.length_cons,List.length_nil,Nat.reduceAdd,Nat.zero_add,List.range,List.range.loop])|(with_reducible refine mu_cf hK ?_ ?_;(· first|(walk_nrm;done)|(simp [Act.eval];done)))|(with_reducible refine mu_ct hK ?_ ?_;(· first|(walk_nrm;done)|(simp [Act.eval];done)))|(refine mu_unwanted hK rfl rfl ?_;walk_nrm)|(refine muv_val hV rfl (by first|exact .inl rfl|exact .inr rfl) rfl (by kernel_rfl) (fun J hJ=>?_);go_simp;with_reducible refine hJ _ ?_;clear hJ J;walk_nrm))
 refine yek _ ?_
 clear hK hV key yek K
 refine To0.walk (at_cas (main:=true) (ad:=⟨R,0,none⟩) (v:=5) (n:=7) rfl rfl (base_ne _) rfl rfl rfl rfl cV2 zV2 (Will.stop ?_))
 have hn3 : norm (V2.setCell ⟨R,0,none⟩ (.int .i64 7)) = (V2.setCell ⟨R,0,none⟩ (.int .i64 7)):=norm_set hn2 _ _
 have kV3 : Kp V (V2.setCell ⟨R,0,none⟩ (.int .i64 7)):=kp_set kV2 (by omega)
 have rV3 : (V2.setCell ⟨R,0,none⟩ (.int .i64 7)).heap[R]? = some (.cells #[.int .i64 7] 64 (0,0)):=by rw [setCell_heap,if_pos rfl,rV2]; simp
 generalize (V2.setCell ⟨R,0,none⟩ (.int .i64 7)) = V3 at *
 have cV3 : V3.cell? ⟨R,0,none⟩ = some (.int .i64 7):=cell_of rV3 (by simp)
 have zV3 : V3.frozen? ⟨R,0,none⟩ = false:=by simp [World.frozen?,rV3]
 walk_nrm
 obtain ⟨K,hK,hV,key,yek⟩:=kKV (L:=Lone) (J:=fun g=>To0 Try.prog Post Z V3 g) mu_to0 (muv_to0 hn3)
 refine key _ ?_
 repeat (first|(with_reducible first|refine mu_seq hK ?_|refine mu_skip hK ?_|(refine mu_region_end hK ?_;try subst hkk)|refine mu_block hK ?_|refine mu_inBlock hK ?_|refine mu_ret hK ?_|refine mu_end hK ?_)|refine mu_exit hK rfl ?_|(with_reducible refine mu_regionH hK (fun kk hkk=>?_);simp only [List.size_toArray,List.length_cons,List.length_nil,Nat.reduceAdd,Nat.zero_add,List.range,List.range.loop])|(with_reducible refine mu_cf hK ?_ ?_;(· first|(walk_nrm;done)|(simp [Act.eval];done)))|(with_reducible refine mu_ct hK ?_ ?_;(· first|(walk_nrm;done)|(simp [Act.eval];done)))|(refine mu_unwanted hK rfl rfl ?_;walk_nrm)|(refine muv_val hV rfl (by first|exact .inl rfl|exact .inr rfl) rfl (by kernel_rfl) (fun J hJ=>?_);go_simp;with_reducible refine hJ _ ?_;clear hJ J;walk_nrm))
 refine mu_leave1 hK rfl rfl Try.func88 rfl ?_
 walk_nrm
 repeat (first|(with_reducible first|refine mu_seq hK ?_|refine mu_skip hK ?_|(refine mu_region_end hK ?_;try subst hkk)|refine mu_block hK ?_|refine mu_inBlock hK ?_|refine mu_ret hK ?_|refine mu_end hK ?_)|refine mu_exit hK rfl ?_|(with_reducible refine mu_regionH hK (fun kk hkk=>?_);simp only [List.size_toArray,List.length_cons,List.length_nil,Nat.reduceAdd,Nat.zero_add,List.range,List.range.loop])|(with_reducible refine mu_cf hK ?_ ?_;(· first|(walk_nrm;done)|(simp [Act.eval];done)))|(with_reducible refine mu_ct hK ?_ ?_;(· first|(walk_nrm;done)|(simp [Act.eval];done)))|(refine mu_unwanted hK rfl rfl ?_;walk_nrm)|(refine muv_val hV rfl (by first|exact .inl rfl|exact .inr rfl) rfl (by kernel_rfl) (fun J hJ=>?_);go_simp;with_reducible refine hJ _ ?_;clear hJ J;walk_nrm))
 refine mu_leave1 hK rfl rfl Try.func40 rfl ?_
 walk_nrm
 repeat (first|(with_reducible first|refine mu_seq hK ?_|refine mu_skip hK ?_|(refine mu_region_end hK ?_;try subst hkk)|refine mu_block hK ?_|refine mu_inBlock hK ?_|refine mu_ret hK ?_|refine mu_end hK ?_)|refine mu_exit hK rfl ?_|(with_reducible refine mu_regionH hK (fun kk hkk=>?_);simp only [List.size_toArray,List.length_cons,List.length_nil,Nat.reduceAdd,Nat.zero_add,List.range,List.range.loop])|(with_reducible refine mu_cf hK ?_ ?_;(· first|(walk_nrm;done)|(simp [Act.eval];done)))|(with_reducible refine mu_ct hK ?_ ?_;(· first|(walk_nrm;done)|(simp [Act.eval];done)))|(refine mu_unwanted hK rfl rfl ?_;walk_nrm)|(refine muv_val hV rfl (by first|exact .inl rfl|exact .inr rfl) rfl (by kernel_rfl) (fun J hJ=>?_);go_simp;with_reducible refine hJ _ ?_;clear hJ J;walk_nrm))
 refine mu_call hK rfl rfl (by decide) rfl Try.func41 (by kernel_rfl) rfl ?_
 have hnt41 : Try.f41.ntmps = 13:=rfl
 rw [hnt41]
 clear hnt41
 walk_nrm
 repeat (first|(with_reducible first|refine mu_seq hK ?_|refine mu_skip hK ?_|(refine mu_region_end hK ?_;try subst hkk)|refine mu_block hK ?_|refine mu_inBlock hK ?_|refine mu_ret hK ?_|refine mu_end hK ?_)|refine mu_exit hK rfl ?_|(with_reducible refine mu_regionH hK (fun kk hkk=>?_);simp only [List.size_toArray,List.length_cons,List.length_nil,Nat.reduceAdd,Nat.zero_add,List.range,List.range.loop])|(with_reducible refine mu_cf hK ?_ ?_;(· first|(walk_nrm;done)|(simp [Act.eval];done)))|(with_reducible refine mu_ct hK ?_ ?_;(· first|(walk_nrm;done)|(simp [Act.eval];done)))|(refine mu_unwanted hK rfl rfl ?_;walk_nrm)|(refine muv_val hV rfl (by first|exact .inl rfl|exact .inr rfl) rfl (by kernel_rfl) (fun J hJ=>?_);go_simp;with_reducible refine hJ _ ?_;clear hJ J;walk_nrm))
 refine mu_call hK rfl rfl (by decide) rfl Try.func24 (by kernel_rfl) rfl ?_
 have hnt24 : Try.f24.ntmps = 6:=rfl
 rw [hnt24]
 clear hnt24
 walk_nrm
 repeat (first|(with_reducible first|refine mu_seq hK ?_|refine mu_skip hK ?_|(refine mu_region_end hK ?_;try subst hkk)|refine mu_block hK ?_|refine mu_inBlock hK ?_|refine mu_ret hK ?_|refine mu_end hK ?_)|refine mu_exit hK rfl ?_|(with_reducible refine mu_regionH hK (fun kk hkk=>?_);simp only [List.size_toArray,List.length_cons,List.length_nil,Nat.reduceAdd,Nat.zero_add,List.range,List.range.loop])|(with_reducible refine mu_cf hK ?_ ?_;(· first|(walk_nrm;done)|(simp [Act.eval];done)))|(with_reducible refine mu_ct hK ?_ ?_;(· first|(walk_nrm;done)|(simp [Act.eval];done)))|(refine mu_unwanted hK rfl rfl ?_;walk_nrm)|(refine muv_val hV rfl (by first|exact .inl rfl|exact .inr rfl) rfl (by kernel_rfl) (fun J hJ=>?_);go_simp;with_reducible refine hJ _ ?_;clear hJ J;walk_nrm))
 refine mu_leave0 hK rfl rfl Try.func24 rfl ?_
 walk_nrm
 repeat (first|(with_reducible first|refine mu_seq hK ?_|refine mu_skip hK ?_|(refine mu_region_end hK ?_;try subst hkk)|refine mu_block hK ?_|refine mu_inBlock hK ?_|refine mu_ret hK ?_|refine mu_end hK ?_)|refine mu_exit hK rfl ?_|(with_reducible refine mu_regionH hK (fun kk hkk=>?_);simp only [List.size_toArray,List.length_cons,List.length_nil,Nat.reduceAdd,Nat.zero_add,List.range,List.range.loop])|(with_reducible refine mu_cf hK ?_ ?_;(· first|(walk_nrm;done)|(simp [Act.eval];done)))|(with_reducible refine mu_ct hK ?_ ?_;(· first|(walk_nrm;done)|(simp [Act.eval];done)))|(refine mu_unwanted hK rfl rfl ?_;walk_nrm)|(refine muv_val hV rfl (by first|exact .inl rfl|exact .inr rfl) rfl (by kernel_rfl) (fun J hJ=>?_);go_simp;with_reducible refine hJ _ ?_;clear hJ J;walk_nrm))
 refine mu_call hK rfl rfl (by decide) rfl Try.func82 (by kernel_rfl) rfl ?_
 have hnt82 : Try.f82.ntmps = 7:=rfl
 rw [hnt82]
 clear hnt82
 walk_nrm
 repeat (first|(with_reducible first|refine mu_seq hK ?_|refine mu_skip hK ?_|(refine mu_region_end hK ?_;try subst hkk)|refine mu_block hK ?_|refine mu_inBlock hK ?_|refine mu_ret hK ?_|refine mu_end hK ?_)|refine mu_exit hK rfl ?_|(with_reducible refine mu_regionH hK (fun kk hkk=>?_);simp only [List.size_toArray,List.length_cons,List.length_nil,Nat.reduceAdd,Nat.zero_add,List.range,List.range.loop])|(with_reducible refine mu_cf hK ?_ ?_;(· first|(walk_nrm;done)|(simp [Act.eval];done)))|(with_reducible refine mu_ct hK ?_ ?_;(· first|(walk_nrm;done)|(simp [Act.eval];done)))|(refine mu_unwanted hK rfl rfl ?_;walk_nrm)|(refine muv_val hV rfl (by first|exact .inl rfl|exact .inr rfl) rfl (by kernel_rfl) (fun J hJ=>?_);go_simp;with_reducible refine hJ _ ?_;clear hJ J;walk_nrm))
 refine yek _ ?_
 clear hK hV key yek K
 refine To0.walk (at_load (main:=true) (ad:=⟨R,0,none⟩) (v:=7) rfl rfl (base_ne _) rfl rfl cV3 (Will.stop ?_))
 walk_nrm
 obtain ⟨K,hK,hV,key,yek⟩:=kKV (L:=Lone) (J:=fun g=>To0 Try.prog Post Z V3 g) mu_to0 (muv_to0 hn3)
 refine key _ ?_
 repeat (first|(with_reducible first|refine mu_seq hK ?_|refine mu_skip hK ?_|(refine mu_region_end hK ?_;try subst hkk)|refine mu_block hK ?_|refine mu_inBlock hK ?_|refine mu_ret hK ?_|refine mu_end hK ?_)|refine mu_exit hK rfl ?_|(with_reducible refine mu_regionH hK (fun kk hkk=>?_);simp only [List.size_toArray,List.length_cons,List.length_nil,Nat.reduceAdd,Nat.zero_add,List.range,List.range.loop])|(with_reducible refine mu_cf hK ?_ ?_;(· first|(walk_nrm;done)|(simp [Act.eval];done)))|(with_reducible refine mu_ct hK ?_ ?_;(· first|(walk_nrm;done)|(simp [Act.eval];done)))|(refine mu_unwanted hK rfl rfl ?_;walk_nrm)|(refine muv_val hV rfl (by first|exact .inl rfl|exact .inr rfl) rfl (by kernel_rfl) (fun J hJ=>?_);go_simp;with_reducible refine hJ _ ?_;clear hJ J;walk_nrm))
 refine mu_leave1 hK rfl rfl Try.func82 rfl ?_
 walk_nrm
 repeat (first|(with_reducible first|refine mu_seq hK ?_|refine mu_skip hK ?_|(refine mu_region_end hK ?_;try subst hkk)|refine mu_block hK ?_|refine mu_inBlock hK ?_|refine mu_ret hK ?_|refine mu_end hK ?_)|refine mu_exit hK rfl ?_|(with_reducible refine mu_regionH hK (fun kk hkk=>?_);simp only [List.size_toArray,List.length_cons,List.length_nil,Nat.reduceAdd,Nat.zero_add,List.range,List.range.loop])|(with_reducible refine mu_cf hK ?_ ?_;(· first|(walk_nrm;done)|(simp [Act.eval];done)))|(with_reducible refine mu_ct hK ?_ ?_;(· first|(walk_nrm;done)|(simp [Act.eval];done)))|(refine mu_unwanted hK rfl rfl ?_;walk_nrm)|(refine muv_val hV rfl (by first|exact .inl rfl|exact .inr rfl) rfl (by kernel_rfl) (fun J hJ=>?_);go_simp;with_reducible refine hJ _ ?_;clear hJ J;walk_nrm))
 refine mu_leave1 hK rfl rfl Try.func41 rfl ?_
 walk_nrm
 repeat (first|(with_reducible first|refine mu_seq hK ?_|refine mu_skip hK ?_|(refine mu_region_end hK ?_;try subst hkk)|refine mu_block hK ?_|refine mu_inBlock hK ?_|refine mu_ret hK ?_|refine mu_end hK ?_)|refine mu_exit hK rfl ?_|(with_reducible refine mu_regionH hK (fun kk hkk=>?_);simp only [List.size_toArray,List.length_cons,List.length_nil,Nat.reduceAdd,Nat.zero_add,List.range,List.range.loop])|(with_reducible refine mu_cf hK ?_ ?_;(· first|(walk_nrm;done)|(simp [Act.eval];done)))|(with_reducible refine mu_ct hK ?_ ?_;(· first|(walk_nrm;done)|(simp [Act.eval];done)))|(refine mu_unwanted hK rfl rfl ?_;walk_nrm)|(refine muv_val hV rfl (by first|exact .inl rfl|exact .inr rfl) rfl (by kernel_rfl) (fun J hJ=>?_);go_simp;with_reducible refine hJ _ ?_;clear hJ J;walk_nrm))
 refine mu_call hK rfl rfl (by decide) rfl Try.func32 (by kernel_rfl) rfl ?_
 have hnt32 : Try.f32.ntmps = 9:=rfl
 rw [hnt32]
 clear hnt32
 walk_nrm
 repeat (first|(with_reducible first|refine mu_seq hK ?_|refine mu_skip hK ?_|(refine mu_region_end hK ?_;try subst hkk)|refine mu_block hK ?_|refine mu_inBlock hK ?_|refine mu_ret hK ?_|refine mu_end hK ?_)|refine mu_exit hK rfl ?_|(with_reducible refine mu_regionH hK (fun kk hkk=>?_);simp only [List.size_toArray,List.length_cons,List.length_nil,Nat.reduceAdd,Nat.zero_add,List.range,List.range.loop])|(with_reducible refine mu_cf hK ?_ ?_;(· first|(walk_nrm;done)|(simp [Act.eval];done)))|(with_reducible refine mu_ct hK ?_ ?_;(· first|(walk_nrm;done)|(simp [Act.eval];done)))|(refine mu_unwanted hK rfl rfl ?_;walk_nrm)|(refine muv_val hV rfl (by first|exact .inl rfl|exact .inr rfl) rfl (by kernel_rfl) (fun J hJ=>?_);go_simp;with_reducible refine hJ _ ?_;clear hJ J;walk_nrm))
 refine mu_call hK rfl rfl (by decide) rfl Try.func82 (by kernel_rfl) rfl ?_
 have hnt82 : Try.f82.ntmps = 7:=rfl
 rw [hnt82]
 clear hnt82
 walk_nrm
 repeat (first|(with_reducible first|refine mu_seq hK ?_|refine mu_skip hK ?_|(refine mu_region_end hK ?_;try subst hkk)|refine mu_block hK ?_|refine mu_inBlock hK ?_|refine mu_ret hK ?_|refine mu_end hK ?_)|refine mu_exit hK rfl ?_|(with_reducible refine mu_regionH hK (fun kk hkk=>?_);simp only [List.size_toArray,List.length_cons,List.length_nil,Nat.reduceAdd,Nat.zero_add,List.range,List.range.loop])|(with_reducible refine mu_cf hK ?_ ?_;(· first|(walk_nrm;done)|(simp [Act.eval];done)))|(with_reducible refine mu_ct hK ?_ ?_;(· first|(walk_nrm;done)|(simp [Act.eval];done)))|(refine mu_unwanted hK rfl rfl ?_;walk_nrm)|(refine muv_val hV rfl (by first|exact .inl rfl|exact .inr rfl) rfl (by kernel_rfl) (fun J hJ=>?_);go_simp;with_reducible refine hJ _ ?_;clear hJ J;walk_nrm))
 refine yek _ ?_
 clear hK hV key yek K
 refine To0.walk (at_load (main:=true) (ad:=⟨R,0,none⟩) (v:=7) rfl rfl (base_ne _) rfl rfl cV3 (Will.stop ?_))
 walk_nrm
 obtain ⟨K,hK,hV,key,yek⟩:=kKV (L:=Lone) (J:=fun g=>To0 Try.prog Post Z V3 g) mu_to0 (muv_to0 hn3)
 refine key _ ?_
 repeat (first|(with_reducible first|refine mu_seq hK ?_|refine mu_skip hK ?_|(refine mu_region_end hK ?_;try subst hkk)|refine mu_block hK ?_|refine mu_inBlock hK ?_|refine mu_ret hK ?_|refine mu_end hK ?_)|refine mu_exit hK rfl ?_|(with_reducible refine mu_regionH hK (fun kk hkk=>?_);simp only [List.size_toArray,List.length_cons,List.length_nil,Nat.reduceAdd,Nat.zero_add,List.range,List.range.loop])|(with_reducible refine mu_cf hK ?_ ?_;(· first|(walk_nrm;done)|(simp [Act.eval];done)))|(with_reducible refine mu_ct hK ?_ ?_;(· first|(walk_nrm;done)|(simp [Act.eval];done)))|(refine mu_unwanted hK rfl rfl ?_;walk_nrm)|(refine muv_val hV rfl (by first|exact .inl rfl|exact .inr rfl) rfl (by kernel_rfl) (fun J hJ=>?_);go_simp;with_reducible refine hJ _ ?_;clear hJ J;walk_nrm))
 refine mu_leave1 hK rfl rfl Try.func82 rfl ?_
 walk_nrm
 repeat (first|(with_reducible first|refine mu_seq hK ?_|refine mu_skip hK ?_|(refine mu_region_end hK ?_;try subst hkk)|refine mu_block hK ?_|refine mu_inBlock hK ?_|refine mu_ret hK ?_|refine mu_end hK ?_)|refine mu_exit hK rfl ?_|(with_reducible refine mu_regionH hK (fun kk hkk=>?_);simp only [List.size_toArray,List.length_cons,List.length_nil,Nat.reduceAdd,Nat.zero_add,List.range,List.range.loop])|(with_reducible refine mu_cf hK ?_ ?_;(· first|(walk_nrm;done)|(simp [Act.eval];done)))|(with_reducible refine mu_ct hK ?_ ?_;(· first|(walk_nrm;done)|(simp [Act.eval];done)))|(refine mu_unwanted hK rfl rfl ?_;walk_nrm)|(refine muv_val hV rfl (by first|exact .inl rfl|exact .inr rfl) rfl (by kernel_rfl) (fun J hJ=>?_);go_simp;with_reducible refine hJ _ ?_;clear hJ J;walk_nrm))
 refine mu_leave1 hK rfl rfl Try.func32 rfl ?_
 walk_nrm
 repeat (first|(with_reducible first|refine mu_seq hK ?_|refine mu_skip hK ?_|(refine mu_region_end hK ?_;try subst hkk)|refine mu_block hK ?_|refine mu_inBlock hK ?_|refine mu_ret hK ?_|refine mu_end hK ?_)|refine mu_exit hK rfl ?_|(with_reducible refine mu_regionH hK (fun kk hkk=>?_);simp only [List.size_toArray,List.length_cons,List.length_nil,Nat.reduceAdd,Nat.zero_add,List.range,List.range.loop])|(with_reducible refine mu_cf hK ?_ ?_;(· first|(walk_nrm;done)|(simp [Act.eval];done)))|(with_reducible refine mu_ct hK ?_ ?_;(· first|(walk_nrm;done)|(simp [Act.eval];done)))|(refine mu_unwanted hK rfl rfl ?_;walk_nrm)|(refine muv_val hV rfl (by first|exact .inl rfl|exact .inr rfl) rfl (by kernel_rfl) (fun J hJ=>?_);go_simp;with_reducible refine hJ _ ?_;clear hJ J;walk_nrm))
 refine mu_leave1 hK rfl rfl Try.func28 rfl ?_
 walk_nrm
 refine yek _ ?_
 clear hK hV key yek K
 exact K0 V3 hn3 kV3
end
end Go.Proofs.Ytibcdikfbhmheaa

namespace Go.Proofs.Ytibcdikfbhmheaa
open Go Go.Conc Go.Proofs
set_option linter.unusedVariables false
section
variable {P : Program} {main : Bool} {Z : Cuts} {Stop : Goroutine → World → Prop} {V : World} {g g' : Goroutine}
theorem will_atz (hr : g.status = .running) {ad : Addr} {v : Value} (hc : V.cell? ad = some v) (hz : V.frozen? ad = false) (hs : ∀ w,w.cell? ad = some v → w.frozen? ad = false → stepG P main g w = .go g' w #[⟨.cell ad,false,true⟩]) (h : Will P main Z Stop g' V) : Will P main Z Stop g V:=by
 refine .step hr (fun w hV hf=>?_) fun w g2 w2 es hV hf hst=>?_
 · subst hV
   obtain ⟨h1,h2,_,⟨c,e,f,h4,h5⟩,h6⟩:=cell_of_norm (W:=pz Z w) (w:=w) rfl hc
   obtain ⟨h7,h8⟩:=frozen_of_norm (W:=pz Z w) (w:=w) rfl hf h4 hz
   exact ⟨g',w,_,hs w h1 h7,Hidden.refl w,hf,fun e he=>by
     obtain rfl:=Array.mem_singleton.1 he
     exact ⟨h2,fun k lo hi hz=>⟨h6 k lo hi hz,fun x=>by cases x⟩⟩⟩
 · subst hV
   obtain ⟨h1,h2,_,⟨c,e,f,h4,h5⟩,h6⟩:=cell_of_norm (W:=pz Z w) (w:=w) rfl hc
   obtain ⟨h7,h8⟩:=frozen_of_norm (W:=pz Z w) (w:=w) rfl hf h4 hz
   rw [hs w h1 h7] at hst
   injection hst with e1 e2 e3
   subst e1 e2
   exact h
end
section
variable {main : Bool} {Z : Cuts} {Stop : Goroutine → World → Prop} {V : World} {b : Frame} {a : Act} {ops : Array Oper} {i : Nat} {rest : List Nat} {k : List Item} {cs : List Frame} {o : Oper} {ats : Array TypeId}
theorem at_miss (ho : ops[i]? = some o) (hw : Region.wanted o (yielded ops a.tmps) = true) (hk : b.kind ≠ .early) {x y z : Operand} (hop : o.op = .call { callee:=.value (.func 125),args:=#[x,y,z],argTypes:=ats }) {ad : Addr} {v u n : Int} (hx : a.eval x = .pointer (some ad)) (hy : a.eval y = .int .i64 u) (hzz : a.eval z = .int .i64 n) (hc : V.cell? ad = some (.int .i64 v)) (hz : V.frozen? ad = false) (hne : ¬ v = u)
   (h : Will Try.prog main Z Stop (G (b.at (a.put o.dst (.bool false)) (.inRegion ops rest :: k)) cs) V) : Will Try.prog main Z Stop (G (b.at a (.inRegion ops (i :: rest) :: k)) cs) V :=
 will_atz rfl hc hz (fun w hcw hzw=>stepG_cas_miss ho hw hk hop Try.func125 (by kernel_rfl) (by kernel_rfl) (by kernel_rfl) .i64 (by kernel_rfl) hx hy hzz hcw hzw hne) h
end
end Go.Proofs.Ytibcdikfbhmheaa

namespace Go.Proofs.Ytibcdikfbhmheaa
open Go Go.Conc Go.Proofs
open Go.ConcN (sumTo upd sumTo_upd upd_ne upd_same)
set_option linter.unusedVariables false
structure AM where
 t : Nat → Nat
 v : Int
 log : List ((Nat × Nat) × (Int × Bool))
def aop (x : Int × Int × Int) (i k : Nat) (s : AM) : AM :=
 if x.1 = 0 then { s with log:=s.log ++ [((i,k),(s.v,false))] }
 else if x.1 = 1 then { s with v:=IntKind.i64.wrap (s.v + x.2.1),log:=s.log ++ [((i,k),(IntKind.i64.wrap (s.v + x.2.1),false))] }
 else if x.1 = 2 then (if s.v = x.2.2 then { s with v:=x.2.1,log:=s.log ++ [((i,k),(0,true))] } else { s with log:=s.log ++ [((i,k),(0,false))] })
 else s
def aturn (acts : Nat → List (Int × Int × Int)) (s : AM) (i : Nat) : AM :=
 { (if s.t i = 0 then s else aop ((acts i).getD (s.t i - 1) (3,0,0)) i (s.t i - 1) s) with t:=upd s.t i (s.t i + 1) }
def amst (acts : Nat → List (Int × Int × Int)) (s : AM) (i : Nat) : Int:=if s.t i = 0 then 0 else if s.t i ≤ (acts i).length then 1 else 3
def amstp (acts : Nat → List (Int × Int × Int)) (x : AM × List Nat) (i : Nat) : AM × List Nat:=if x.1.t i ≤ (acts i).length then (aturn acts x.1 i,x.2 ++ [i]) else x
theorem aturn_t (acts : Nat → List (Int × Int × Int)) (s : AM) (i : Nat) : (aturn acts s i).t = upd s.t i (s.t i + 1):=rfl
theorem amst_run (acts : Nat → List (Int × Int × Int)) (s : AM) (i : Nat) : (amst acts s i = 0 ∨ amst acts s i = 1) ↔ s.t i ≤ (acts i).length:=by
 unfold amst
 split
 · rename_i h; rw [h]; simp
 · split
   · rename_i h; simp [h]
   · rename_i h; simp [h]
theorem amst_other (acts : Nat → List (Int × Int × Int)) (s : AM) {i j : Nat} (h : j ≠ i) : amst acts (aturn acts s i) j = amst acts s j:=by
 unfold amst
 rw [aturn_t,upd_ne _ _ h]
theorem amstp_len (acts : Nat → List (Int × Int × Int)) (x : AM × List Nat) (i : Nat) : (amstp acts x i).2.length ≤ x.2.length + 1 ∧ ((amstp acts x i).2.length = x.2.length → amstp acts x i = x):=by
 unfold amstp
 split
 · exact ⟨by simp,fun h=>by simp at h⟩
 · exact ⟨Nat.le_succ _,fun _=>rfl⟩
end Go.Proofs.Ytibcdikfbhmheaa

namespace Go.Proofs.Ytibcdikfbhmheaa
open Go Go.Conc Go.Proofs
open Go.ConcN (sumTo upd sumTo_upd upd_ne upd_same)
set_option linter.unusedVariables false
def ents (l : List ((Nat × Nat) × (Int × Bool))) : List Value:=l.flatMap fun x=>[.int .i64 (x.1.1 : Int),.int .i64 (x.1.2 : Int),.int .i64 x.2.1,.bool x.2.2]
structure Ae where
 n : Nat
 acts : Nat → List (Int × Int × Int)
 ab : Nat
 gb : Nat
 tb : Nat
 ix : Nat → Nat
 la : Option Addr
 lc : Nat
 ra : Nat → Option Addr
 rc : Nat → Nat
 Vr : World
structure EInv (D : Ae) (s : AM) (own : Nat → Prop) (V : World) : Prop where
 sz : D.Vr.heap.size ≤ V.heap.size
 num : V.heap[D.ab]? = some (.cells #[.int .i64 s.v] 64 (0,0))
 log : ∃ lv,V.heap[D.gb]? = some (.cells #[lv] 65 (0,0)) ∧ V.ownsRow 0 67 4 lv s.log.length (ents s.log) ∧ ∀ b,lv.ownBlock = some b → own b ∧ D.Vr.heap.size ≤ b
 old : ∀ b,b < D.Vr.heap.size → own b ∧ (b ≠ D.ab → b ≠ D.gb → V.heap[b]? = D.Vr.heap[b]?)
 le : ∀ i,i < D.n → s.t i ≤ (D.acts i).length + 1
 cnt : s.log.length ≤ sumTo D.n s.t
theorem EInv.frame {D : Ae} {s : AM} {own : Nat → Prop} {V V' : World} (hab : D.ab < D.Vr.heap.size) (hgb : D.gb < D.Vr.heap.size) (h : EInv D s own V) (k : ∀ b,own b → V'.heap[b]? = V.heap[b]?) (hs : V.heap.size ≤ V'.heap.size) : EInv D s own V':=by
 obtain ⟨lv,h1,h2,h3⟩:=h.log
 exact ⟨Nat.le_trans h.sz hs,(k _ (h.old _ hab).1).trans h.num,⟨lv,(k _ (h.old _ hgb).1).trans h1,row_keep h2 fun b hb=>k b (h3 b hb).1,h3⟩,fun b hb=>⟨(h.old b hb).1,fun h1 h2=>(k b (h.old b hb).1).trans ((h.old b hb).2 h1 h2)⟩,h.le,h.cnt⟩
end Go.Proofs.Ytibcdikfbhmheaa

namespace Go.Proofs.Ytibcdikfbhmheaa
open Go Go.Conc Go.Proofs
open Go.ConcN (sumTo upd sumTo_upd upd_ne upd_same)
set_option linter.unusedVariables false
structure AeOk (D : Ae) : Prop where
 ab : D.ab < D.Vr.heap.size ∧ D.ab ≠ D.gb
 gb : D.gb < D.Vr.heap.size
 tb : D.tb < D.Vr.heap.size ∧ D.tb ≠ D.ab ∧ D.tb ≠ D.gb ∧ D.Vr.heap[D.tb]? = some (.cells #[.slice D.la D.n D.lc] 54 (0,0))
 ix : ∀ i,i < D.n → D.ix i < D.Vr.heap.size ∧ D.ix i ≠ D.ab ∧ D.ix i ≠ D.gb ∧ D.Vr.heap[D.ix i]? = some (.cells #[.int .i64 (i : Int)] 3 (0,0))
 out : 0 < D.n → ∃ g o,D.la = some ⟨g,o,none⟩ ∧ g < D.Vr.heap.size ∧ g ≠ D.ab ∧ g ≠ D.gb ∧ ∀ i,i < D.n → D.Vr.cell? ⟨g,o + i,none⟩ = some (.slice (D.ra i) (D.acts i).length (D.rc i))
 inn : ∀ i,i < D.n → 0 < (D.acts i).length → ∃ g o,D.ra i = some ⟨g,o,none⟩ ∧ g < D.Vr.heap.size ∧ g ≠ D.ab ∧ g ≠ D.gb ∧ ∀ j (hj : j < (D.acts i).length),D.Vr.cell? ⟨g,o + j * 3,none⟩ = some (.int .i64 ((D.acts i)[j]'hj).1) ∧ D.Vr.cell? ⟨g,o + j * 3 + 1,none⟩ = some (.int .i64 ((D.acts i)[j]'hj).2.1) ∧ D.Vr.cell? ⟨g,o + j * 3 + 2,none⟩ = some (.int .i64 ((D.acts i)[j]'hj).2.2)
 len : ∀ i,i < D.n → (D.acts i).length ≤ 20
 small : D.n ≤ 10
section
variable {D : Ae} {s : AM} {own : Nat → Prop} {V : World}
theorem EInv.at_ (I : EInv D s own V) {b k : Nat} {v : Value} (hb : b < D.Vr.heap.size) (h1 : b ≠ D.ab) (h2 : b ≠ D.gb) (hc : D.Vr.cell? ⟨b,k,none⟩ = some v) : V.cell? ⟨b,k,none⟩ = some v:=by
 have h:=(I.old b hb).2 h1 h2
 unfold World.cell? at *
 simp only at *
 rw [h]; exact hc
end
end Go.Proofs.Ytibcdikfbhmheaa
