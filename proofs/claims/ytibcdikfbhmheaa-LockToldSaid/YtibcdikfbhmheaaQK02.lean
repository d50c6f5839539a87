import Derived.Test.YtibcdikfbhmheaaQK01
import Derived.Test.YtibcdikfbhmheaaB23
import Derived.Test.YtibcdikfbhmheaaB18
import Derived.Test.YtibcdikfbhmheaaB22
set_option linter.unusedSimpArgs false
set_option linter.unusedVariables false
set_option maxRecDepth 100000
set_option maxHeartbeats 4000000
namespace Go.Proofs.Ytibcdikfbhmheaa
open Go Go.Conc Go.Proofs
open Go.ConcN (sumTo upd sumTo_upd upd_ne upd_same)
set_option linter.unusedVariables false
section
variable {P : Program} {K : Goroutine → Prop} {b : Frame} {k : List Item} {cs : List Frame} {ops : Array Oper}
theorem ready_some {listed : Array Bool} {N : Nat} (hN : ops.size = N) (hback : ((List.range N).all fun i=>(ops[i]?).any fun o=>o.after.all fun e=>decide (e.on < i)) = true) (hs : listed.size = N) (h : ∃ i,i < N ∧ listed.getD i false = false) : ∃ i,i ∈ Region.ready .any ops listed:=by
 obtain ⟨i,hi⟩:=h
 induction i using Nat.strongRecOn with
 | _ i ih =>
   by_cases hx : ∃ j,j < i ∧ listed.getD j false = false
   · obtain ⟨j,hj,hl⟩:=hx
     exact ih j hj ⟨by omega,hl⟩
   · refine ⟨i,mem_ready.2 ⟨?_,?_⟩⟩
     · have:=hi.2
       simp [Array.getD_eq_getD_getElem?,Array.getElem?_eq_getElem (show i < listed.size by omega)] at this ⊢
       exact this
     · have h:=List.all_eq_true.1 hback i (List.mem_range.2 hi.1)
       rcases ho : ops[i]? with _ | o
       · rw [ho] at h; cases h
       · rw [ho] at h
         simp only [Option.any_some,Array.all_eq_true',decide_eq_true_eq] at h
         refine ⟨o,rfl,fun e he _=>?_⟩
         have h1:=h e he
         cases hl : listed.getD e.on false with
         | true=>rfl
         | false=>exact absurd ⟨_,h1,hl⟩ hx
def unl (listed : Array Bool) : Nat:=listed.toList.countP fun x=>!x
theorem unl_set {listed : Array Bool} {i : Nat} (hi : i < listed.size) (h : listed.getD i true = false) : unl (listed.setIfInBounds i true) + 1 = unl listed:=by
 have hl : listed.toList[i]'(by simpa using hi) = false:=by
   simpa [Array.getD_eq_getD_getElem?,Array.getElem?_eq_getElem hi] using h
 unfold unl
 rw [Array.toList_setIfInBounds,List.countP_set (by simpa using hi),hl]
 have : 0 < listed.toList.countP fun x=>!x:=List.countP_pos_iff.2 ⟨_,List.getElem_mem (by simpa using hi),by rw [hl]; rfl⟩
 simp only [Bool.not_false,if_true,Bool.not_true,Bool.false_eq_true,if_false]
 omega
end
section
variable {K : Goroutine → Prop} {V V' : World} {K' : Goroutine → Prop} {tb mb cb rb kb eb : Nat} {T : Array Value} {b : Frame} {k : List Item} {cs : List Frame} {rest : List Nat}
theorem wanted_none {o : Oper} {y : Nat → Option Bool} (h : o.guard = none) : Region.wanted o y = true:=by unfold Region.wanted; rw [h]
theorem evt {T : Array Value} {i : Nat} {v : Value} (h : T[i]? = some v) : Act.eval ⟨T,[]⟩ (.tmp i) = v:=by simp [Act.eval,Array.getD_eq_getD_getElem?,h]
def N57 (tb mb cb rb kb eb : Nat) (T : Array Value) : Prop:=T.size = 40 ∧ T[0]? = some (.pointer (some ⟨tb,0,none⟩)) ∧ T[2]? = some (.pointer (some ⟨mb,0,none⟩)) ∧ T[3]? = some (.pointer (some ⟨cb,0,none⟩)) ∧ T[4]? = some (.pointer (some ⟨rb,0,none⟩)) ∧ T[5]? = some (.pointer (some ⟨kb,0,none⟩)) ∧ T[6]? = some (.pointer (some ⟨eb,0,none⟩))
theorem N57.put {tb mb cb rb kb eb : Nat} {T : Array Value} {d : Nat} {v : Value} (h : N57 tb mb cb rb kb eb T) (hd : 7 ≤ d) : N57 tb mb cb rb kb eb (T.setIfInBounds d v):=by
 obtain ⟨h0,h1,h2,h3,h4,h5,h6⟩:=h
 refine ⟨by simp [h0],?_,?_,?_,?_,?_,?_⟩ <;> (rw [Array.getElem?_setIfInBounds_ne (by omega)]; assumption)
end
end Go.Proofs.Ytibcdikfbhmheaa

namespace Go.Proofs.Ytibcdikfbhmheaa
open Go Go.Conc Go.Proofs
open Go.ConcN (sumTo upd sumTo_upd upd_ne upd_same)
set_option linter.unusedVariables false
theorem array14g (T : Array Value) (h : T.size = 14) : ∃ f : Nat → Value,(∀ i v,T[i]? = some v → f i = v) ∧ T = #[f 0,f 1,f 2,f 3,f 4,f 5,f 6,f 7,f 8,f 9,f 10,f 11,f 12,f 13]:=by
 refine ⟨fun i=>T.getD i undef,fun i v hv=>by simp [Array.getD_eq_getD_getElem?,hv],?_⟩
 generalize hf : (fun i=>T.getD i undef) = f
 have e : T.toList = (List.range 14).map f:=by
   apply List.ext_getElem?
   intro i
   rw [List.getElem?_map,Array.getElem?_toList]
   by_cases hi : i < 14
   · rw [List.getElem?_range hi,Option.map_some,← hf]
     simp [Array.getD_eq_getD_getElem?,Array.getElem?_eq_getElem (show i < T.size by omega)]
   · rw [List.getElem?_eq_none (by simp; omega),Array.getElem?_eq_none (by omega)]
     rfl
 have e2 : (List.range 14).map f = [f 0,f 1,f 2,f 3,f 4,f 5,f 6,f 7,f 8,f 9,f 10,f 11,f 12,f 13]:=rfl
 rw [e2] at e
 rw [← Array.toArray_toList (xs:=T),e]
noncomputable def B51 : Code:=Try.f51.body.getD .skip
noncomputable def P51 : Code:=nva B51
noncomputable def C51 : Code:=nva (nvb B51)
noncomputable def L51 : Code:=nvl (nvk (nva (nvb (nvb B51))))
noncomputable def E51 : Code:=nvb (nvb (nvb B51))
noncomputable def R51 : Code:=nva (nva L51)
noncomputable def o51 : Array Oper:=rops R51
theorem B51_eq : Try.f51.body = some (.seq P51 (.seq C51 (.seq (.block 0 (.loop L51)) E51))):=by kernel_rfl
theorem L51_eq : L51 = .seq (.seq R51 (.cond (.tmp 13) .skip (.exit 0))) (.block 1 .skip):=by kernel_rfl
theorem kp_re (V : World) (τ : Nat → Question → Nat) : Kp V (re V τ 0):=⟨Nat.le_refl _,fun _ _=>rfl⟩
theorem kp_norm (w : World) : Kp w (norm w):=⟨Nat.le_refl _,fun _ _=>rfl⟩
def T51 (T : Array Value) (cb : Nat) (tp : Value) : Prop:=T.size = 14 ∧ T[0]? = some (.pointer (some ⟨cb,0,none⟩)) ∧ T[1]? = some tp
section
variable {main : Bool} {Z : Cuts} {Stop : Goroutine → World → Prop} {V V0 : World} {mb cb ow : Nat} {q cq : List Nat} {qv0 cv0 qv cv tp : Value} {m1 : Option Addr} {T : Array Value} {kt : List Item} {b₀ : Frame} {a₀ : Act} {ops₀ : Array Oper} {i₀ : Nat} {rest₀ : List Nat} {k₀ : List Item} {cs : List Frame}
theorem r51_in (hn : norm V = V) (hT : T51 T cb tp) (K : ∀ T',T51 T' cb tp → Will Try.prog main Z Stop (G (Frame.enter Try.prog 95 #[.pointer (some ⟨cb,0,none⟩),tp] .normal) ((base 51).at ⟨T',[]⟩ (.inRegion o51 [2] :: kt) :: cs)) V) :
   Will Try.prog main Z Stop (G ((base 51).at ⟨T,[]⟩ (.code R51 :: kt)) cs) V:=by
 have hK0:=K
 clear K
 obtain ⟨hs,t0,t1⟩:=hT
 obtain ⟨f,hf,hT⟩:=array14g T hs
 rw [hT]
 simp only [hf _ _ t0,hf _ _ t1]
 clear hf hs t0 t1
 subst hT
 have e3 : R51 = .region 3 o51 false:=by kernel_rfl
 rw [e3]
 clear e3
 generalize hX : o51 = X at *
 simp only [o51,R51,L51,B51,rops,nva,nvb,nvk,nvl,Try.f51,Option.getD_some] at hX
 subst hX
 obtain ⟨K,hK,hV,key,yek⟩:=kKV (L:=Lone) (J:=fun g=>Will Try.prog main Z Stop g V) mu_will (muv_will hn)
 refine key _ ?_
 refine mu_region hK ?_
 simp only [List.size_toArray,List.length_cons,List.length_nil,Nat.reduceAdd,Nat.zero_add,List.range,List.range.loop]
 refine muv_val hV rfl (.inl rfl) rfl (by kernel_rfl) (fun J hJ=>?_)
 go_simp
 with_reducible refine hJ _ ?_
 clear hJ J
 walk_nrm
 refine muv_val hV rfl (.inl rfl) rfl (by kernel_rfl) (fun J hJ=>?_)
 go_simp
 with_reducible refine hJ _ ?_
 clear hJ J
 walk_nrm
 refine mu_call hK rfl rfl (by decide) rfl Try.func95 (by kernel_rfl) rfl ?_
 rw [← enter_at (P:=Try.prog) _ Try.func95 rfl]
 walk_nrm
 refine yek _ ?_
 clear hK hV key yek K
 refine hK0 _ ⟨?_,rfl,rfl⟩
 simp
theorem r51_out (hT : T51 T cb tp) {v : Value} (K : ∀ T',T51 T' cb tp → T'[13]? = some v → Will Try.prog main Z Stop (G ((base 51).at ⟨T',[]⟩ kt) cs) V) :
   Will Try.prog main Z Stop (G (Frame.finish ((base 51).at ⟨T,[]⟩ (.inRegion o51 [2] :: kt)) v) cs) V:=by
 have hd : ((o51[2]?).map (·.dst)) = some (some 13):=by kernel_rfl
 have hd2 : ((o51[2]?).bind (·.dst)) = some 13:=by
   rcases ho : o51[2]? with _ | o
   · rw [ho] at hd; cases hd
   · rw [ho] at hd; simpa using hd
 rw [Frame.finish_at,hd2]
 refine mu_region_end mu_will ?_
 obtain ⟨hs,t0,t1⟩:=hT
 refine K (T.setIfInBounds 13 v) ⟨by simpa using hs,?_,?_⟩ ?_
 · rw [Array.getElem?_setIfInBounds_ne (by decide)]; exact t0
 · rw [Array.getElem?_setIfInBounds_ne (by decide)]; exact t1
 · rw [Array.getElem?_setIfInBounds_self_of_lt (by omega)]
theorem bc_loop (how : ow ≠ 0) : ∀ (cq q : List Nat) (qv cv : Value) (V : World) (T : Array Value),norm V = V → BcI V0 qv0 cv0 mb cb ow q qv cq cv V → (∀ x ∈ cq,x < 1000) → q.length + cq.length < 1000000 → T51 T cb tp →
   (∀ V' qv' cv' T',norm V' = V' → BcI V0 qv0 cv0 mb cb ow (q ++ cq) qv' [] cv' V' → T51 T' cb tp → Will Try.prog main Z Stop (G ((base 51).at ⟨T',[]⟩ kt) cs) V') →
   Will Try.prog main Z Stop (G ((base 51).at ⟨T,[]⟩ (.code L51 :: .inLoop L51 :: .inBlock 0 :: kt)) cs) V:=by
 intro cq
 induction cq with
 | nil =>
   intro q qv cv V T hn H hx hl hT K
   refine (fun (h : ∀ X,X = L51 → Will Try.prog main Z Stop (G ((base 51).at ⟨T,[]⟩ (.code X :: .inLoop L51 :: .inBlock 0 :: kt)) cs) V)=>h _ rfl) ?_
   intro X hX
   rw [L51_eq] at hX
   subst hX
   refine mu_seq mu_will (mu_seq mu_will (r51_in hn hT fun T1 hT1=>?_))
   refine will_call (R:=fun v V'=>v = .bool false ∧ norm V' = V' ∧ BcI V0 qv0 cv0 mb cb ow q qv [] cv V') calm (by decide) (fun τ=>(tell95n (H.kp (kp_re V τ))).mono fun e w' hh=>?_) fun v V' hh=>?_
   · obtain ⟨rfl,h⟩:=hh
     exact ⟨rfl,rfl,h.kp (kp_norm w')⟩
   · obtain ⟨rfl,hn',h⟩:=hh
     refine r51_out hT1 fun T2 hT2 h13=>?_
     refine mu_cond mu_will false (evt h13) ?_
     refine mu_exit mu_will rfl ?_
     rw [List.append_nil] at K
     exact K V' qv cv T2 hn' h hT2
 | cons x cq ih =>
   intro q qv cv V T hn H hx hl hT K
   refine (fun (h : ∀ X,X = L51 → Will Try.prog main Z Stop (G ((base 51).at ⟨T,[]⟩ (.code X :: .inLoop L51 :: .inBlock 0 :: kt)) cs) V)=>h _ rfl) ?_
   intro X hX
   rw [L51_eq] at hX
   subst hX
   simp only [List.length_cons] at hl
   refine mu_seq mu_will (mu_seq mu_will (r51_in hn hT fun T1 hT1=>?_))
   refine will_call (R:=fun v V'=>v = .bool true ∧ norm V' = V' ∧ ∃ qv' cv',BcI V0 qv0 cv0 mb cb ow (q ++ [x]) qv' cq cv' V') calm (by decide) (fun τ=>(tell95 (H.kp (kp_re V τ)) how (hx x List.mem_cons_self) (by omega)).mono fun e w' hh=>?_) fun v V' hh=>?_
   · obtain ⟨rfl,qv',cv',h⟩:=hh
     exact ⟨rfl,rfl,qv',cv',h.kp (kp_norm w')⟩
   · obtain ⟨rfl,hn',qv',cv',h⟩:=hh
     refine r51_out hT1 fun T2 hT2 h13=>?_
     refine mu_cond mu_will true (evt h13) ?_
     refine mu_skip mu_will (mu_block mu_will (mu_skip mu_will (mu_inBlock mu_will (mu_inLoop mu_will ?_))))
     refine ih (q ++ [x]) qv' cv' V' T2 hn' h (fun y hy=>hx y (List.mem_cons_of_mem _ hy)) (by rw [List.length_append,List.length_singleton]; omega) hT2 fun V2 qv2 cv2 T3 hn2 h2 hT3=>?_
     rw [List.append_assoc,List.singleton_append] at h2
     exact K V2 qv2 cv2 T3 hn2 h2 hT3
theorem r51_end (hn : norm V = V) (hT : T51 T cb tp) (K : Will Try.prog main Z Stop (G (b₀.at (a₀.put ((ops₀[i₀]?).bind (·.dst)) (.int .i64 0)) (.inRegion ops₀ rest₀ :: k₀)) cs) V) : Will Try.prog main Z Stop (G ((base 51).at ⟨T,[]⟩ [.code E51]) (b₀.at a₀ (.inRegion ops₀ (i₀ :: rest₀) :: k₀) :: cs)) V:=by
 have hK0:=K
 clear K
 obtain ⟨hs,t0,t1⟩:=hT
 obtain ⟨f,hf,hT⟩:=array14g T hs
 rw [hT]
 simp only [hf _ _ t0,hf _ _ t1]
 clear hf hs t0 t1
 subst hT
 generalize hX : E51 = X at *
 simp only [E51,B51,nvb,Try.f51,Option.getD_some] at hX
 subst hX
 obtain ⟨K,hK,hV,key,yek⟩:=kKV (L:=Lone) (J:=fun g=>Will Try.prog main Z Stop g V) mu_will (muv_will hn)
 refine key _ ?_
 repeat (first|(with_reducible first|refine mu_seq hK ?_|refine mu_skip hK ?_|(refine mu_region_end hK ?_;try subst hkk)|refine mu_block hK ?_|refine mu_inBlock hK ?_|refine mu_ret hK ?_|refine mu_end hK ?_)|refine mu_exit hK rfl ?_|(with_reducible refine mu_regionH hK (fun kk hkk=>?_);simp only [List.size_toArray,List.length_cons,List.length_nil,Nat.reduceAdd,Nat.zero_add,List.range,List.range.loop])|(with_reducible refine mu_cf hK ?_ ?_;(· first|(walk_nrm;done)|(simp [Act.eval];done)))|(with_reducible refine mu_ct hK ?_ ?_;(· first|(walk_nrm;done)|(simp [Act.eval];done)))|(refine mu_unwanted hK rfl rfl ?_;walk_nrm)|(refine muv_val hV rfl (by first|exact .inl rfl|exact .inr rfl) rfl (by kernel_rfl) (fun J hJ=>?_);go_simp;with_reducible refine hJ _ ?_;clear hJ J;walk_nrm))
 refine mu_leave1 hK rfl rfl Try.func51 rfl ?_
 refine yek _ ?_
 clear hK hV key yek K
 exact hK0
theorem will_bc (hn : norm V = V) (how : ow ≠ 0) (H : BcI V qv cv mb cb ow q qv cq cv V) (hx : ∀ x ∈ cq,x < 1000) (hl : q.length + cq.length < 1000000) {tb : Nat}
   (K : ∀ V' qv' cv',norm V' = V' → BcI V qv cv mb cb ow (q ++ cq) qv' [] cv' V' → Will Try.prog main Z Stop (G (b₀.at (a₀.put ((ops₀[i₀]?).bind (·.dst)) (.int .i64 0)) (.inRegion ops₀ rest₀ :: k₀)) cs) V') :
   Will Try.prog main Z Stop (G (Frame.enter Try.prog 51 #[.pointer (some ⟨cb,0,none⟩),.pointer (some ⟨tb,0,none⟩)] .normal) (b₀.at a₀ (.inRegion ops₀ (i₀ :: rest₀) :: k₀) :: cs)) V:=by
 rw [enter_at (P:=Try.prog) _ Try.func51 B51_eq]
 have hnt : Try.f51.ntmps = 14:=rfl
 rw [hnt]
 clear hnt
 refine mu_seq mu_will ?_
 have KK : ∀ T,T51 T cb (.pointer (some ⟨tb,0,none⟩)) → Will Try.prog main Z Stop (G ((base 51).at ⟨T,[]⟩ [.code (.seq (.block 0 (.loop L51)) E51)]) (b₀.at a₀ (.inRegion ops₀ (i₀ :: rest₀) :: k₀) :: cs)) V:=fun T hT=>mu_seq mu_will (mu_block mu_will (mu_loop mu_will (bc_loop how cq q qv cv V T hn H hx hl hT fun V' qv' cv' T' hn' h hT'=>r51_end hn' hT' (K V' qv' cv' hn' h))))
 clear K H
 generalize hX : P51 = X
 simp only [P51,B51,nva,Try.f51,Option.getD_some] at hX
 subst hX
 walk_nrm
 obtain ⟨K,hK,hV,key,yek⟩:=kKV (L:=Lone) (J:=fun g=>Will Try.prog main Z Stop g V) mu_will (muv_will hn)
 refine key _ ?_
 refine mu_regionH hK (fun kk hkk=>?_)
 simp only [List.size_toArray,List.length_cons,List.length_nil,Nat.reduceAdd,Nat.zero_add,List.range,List.range.loop]
 refine muv_val hV rfl (.inl rfl) rfl (by kernel_rfl) (fun J hJ=>?_)
 go_simp
 with_reducible refine hJ _ ?_
 clear hJ J
 walk_nrm
 refine mu_region_end hK ?_
 subst hkk
 refine mu_seq hK ?_
 generalize hX : C51 = X
 simp only [C51,B51,nva,nvb,Try.f51,Option.getD_some] at hX
 subst hX
 generalize hY : Code.seq (.block 0 (.loop L51)) E51 = Y at *
 repeat (first|(with_reducible first|refine mu_seq hK ?_|refine mu_skip hK ?_|(refine mu_region_end hK ?_;try subst hkk)|refine mu_block hK ?_|refine mu_inBlock hK ?_|refine mu_ret hK ?_|refine mu_end hK ?_)|refine mu_exit hK rfl ?_|(with_reducible refine mu_regionH hK (fun kk hkk=>?_);simp only [List.size_toArray,List.length_cons,List.length_nil,Nat.reduceAdd,Nat.zero_add,List.range,List.range.loop])|(with_reducible refine mu_cf hK ?_ ?_;(· first|(walk_nrm;done)|(simp [Act.eval];done)))|(with_reducible refine mu_ct hK ?_ ?_;(· first|(walk_nrm;done)|(simp [Act.eval];done)))|(refine mu_unwanted hK rfl rfl ?_;walk_nrm)|(refine muv_val hV rfl (by first|exact .inl rfl|exact .inr rfl) rfl (by kernel_rfl) (fun J hJ=>?_);go_simp;with_reducible refine hJ _ ?_;clear hJ J;walk_nrm))
 refine yek _ ?_
 clear hK hV key yek K
 exact KK _ ⟨by simp,rfl,rfl⟩
end
end Go.Proofs.Ytibcdikfbhmheaa

namespace Go.Proofs.Ytibcdikfbhmheaa
open Go Go.Conc Go.Proofs
open Go.ConcN (sumTo upd sumTo_upd upd_ne upd_same)
set_option linter.unusedVariables false
theorem arrg_QK02 {n : Nat} (T : Array Value) (h : T.size = n) : ∃ f : Nat → Value,(∀ i v,T[i]? = some v → f i = v) ∧ T = ((List.range n).map f).toArray:=by
 refine ⟨fun i=>T.getD i undef,fun i v hv=>by simp [Array.getD_eq_getD_getElem?,hv],?_⟩
 generalize hf : (fun i=>T.getD i undef) = f
 have e : T.toList = (List.range n).map f:=by
   apply List.ext_getElem?
   intro i
   rw [List.getElem?_map,Array.getElem?_toList]
   by_cases hi : i < n
   · rw [List.getElem?_range hi,Option.map_some,← hf]
     simp [Array.getD_eq_getD_getElem?,Array.getElem?_eq_getElem (show i < T.size by omega)]
   · rw [List.getElem?_eq_none (by simp; omega),Array.getElem?_eq_none (by omega)]
     rfl
 rw [← Array.toArray_toList (xs:=T),e]
theorem array37f (T : Array Value) (h : T.size = 37) : ∃ f : Nat → Value,(∀ i v,T[i]? = some v → f i = v) ∧ T = #[f 0,f 1,f 2,f 3,f 4,f 5,f 6,f 7,f 8,f 9,f 10,f 11,f 12,f 13,f 14,f 15,f 16,f 17,f 18,f 19,f 20,f 21,f 22,f 23,f 24,f 25,f 26,f 27,f 28,f 29,f 30,f 31,f 32,f 33,f 34,f 35,f 36]:=arrg_QK02 T h
section
variable {P : Program} {K : Goroutine → Prop} {b : Frame} {k : List Item} {cs : List Frame} {ops : Array Oper}
theorem order2_K {j N : Nat} (hN : ops.size = N) (hback : ((List.range N).all fun i=>(ops[i]?).any fun o=>o.after.all fun e=>decide (e.on < i)) = true)
   (hlast : ((List.range N).all fun i=>i == j || reach .any ops i N j) = true) (hj0 : j < N) (Inv : Array Bool → Act → Prop)
   (hstep : ∀ listed a i,Inv listed a → listed.size = N → i < N → i ≠ j → i ∈ Region.ready .any ops listed → ∃ a',Inv (listed.setIfInBounds i true) a' ∧ ∀ rest,K (G (b.at a' (.inRegion ops rest :: k)) cs) → K (G (b.at a (.inRegion ops (i :: rest) :: k)) cs))
   (hend : ∀ listed a,Inv listed a → (∀ i,i < N → i ≠ j → listed.getD i false = true) → K (G (b.at a (.inRegion ops [j] :: k)) cs)) :
   ∀ (n t : Nat) (listed : Array Bool) (a : Act),Cl .any ops listed → unl listed = n → listed.size = N → listed.getD j true = false → Inv listed a → K (G (b.at a (.inRegion ops (Region.linearise.go .any ops n t listed []) :: k)) cs):=by
 intro n
 induction n with
 | zero =>
   intro t listed a hc hu hs hj _
   exfalso
   have:=unl_set (by omega) hj
   omega
 | succ n ih =>
   intro t listed a hc hu hs hj hI
   have hjs : j < listed.size:=by omega
   have hjf : listed.getD j false = false:=by
     simp [Array.getD_eq_getD_getElem?,Array.getElem?_eq_getElem hjs] at hj ⊢; exact hj
   obtain ⟨i0,hi0⟩:=ready_some hN hback hs ⟨j,by omega,hjf⟩
   simp only [Region.linearise.go]
   change K (G (b.at a (.inRegion ops (match (Region.ready .any ops listed)[t % (Region.ready .any ops listed).length]? with
     | some i=>Region.linearise.go .any ops n (t / (Region.ready .any ops listed).length) (listed.setIfInBounds i true) [i]
     | none=>[].reverse) :: k)) cs)
   cases hi : (Region.ready .any ops listed)[t % (Region.ready .any ops listed).length]? with
   | none =>
     exfalso
     cases hr : Region.ready .any ops listed with
     | nil=>rw [hr] at hi0; cases hi0
     | cons x xs =>
       rw [hr] at hi
       have hlt : t % (x :: xs).length < (x :: xs).length:=Nat.mod_lt _ (by simp)
       simp at hi
       simp at hlt
       omega
   | some i =>
     simp only []
     rw [linearise_go_acc,List.reverse_singleton,List.singleton_append]
     have hr:=List.mem_of_getElem? hi
     obtain ⟨h1,o,ho,hall⟩:=mem_ready.1 hr
     have hiN : i < N:=by rw [← hN]; exact (Array.getElem?_eq_some_iff.1 ho).1
     by_cases e : i = j
     · subst e
       have hl : ∀ i',i' < N → i' ≠ i → listed.getD i' false = true:=fun i' h' hne=>by
         have h2:=List.all_eq_true.1 hlast i' (List.mem_range.2 h')
         simp only [Bool.or_eq_true,beq_iff_eq] at h2
         cases hv : listed.getD i' false with
         | true=>rfl
         | false =>
           rcases h2 with h2 | h2
           · exact absurd h2 hne
           · exact absurd hr (reach_off hc hv h2).2
       have hn0 : n = 0:=by
         have h2:=unl_set (by omega) h1
         have h3 : unl (listed.setIfInBounds i true) = 0:=by
           unfold unl
           rw [List.countP_eq_zero]
           intro x hx
           obtain ⟨m,hm,hmx⟩:=List.getElem_of_mem hx
           have hm' : m < listed.size:=by simpa using hm
           by_cases e : m = i
           · subst e
             have : x = true:=by rw [← hmx]; simp
             rw [this]; decide
           · have h5:=hl m (by omega) e
             have : x = true:=by
               rw [← hmx]
               simp [Array.getD_eq_getD_getElem?,Array.getElem?_eq_getElem hm'] at h5
               simp [Array.getElem_setIfInBounds,h5,Ne.symm e]
             rw [this]; decide
         omega
       subst hn0
       exact hend listed a hI hl
     · obtain ⟨a',hI',hk⟩:=hstep listed a i hI hs hiN e hr
       refine hk _ (ih _ _ _ (hc.set hr) ?_ (by simp [hs]) ?_ hI')
       · have:=unl_set (by omega) h1
         omega
       · rw [getD_set_ne true e]; exact hj
theorem order2_go {j N : Nat} {id : Nat} {a : Act} (hD : MuD P K) (hN : ops.size = N) (hback : ((List.range N).all fun i=>(ops[i]?).any fun o=>o.after.all fun e=>decide (e.on < i)) = true)
   (hlast : ((List.range N).all fun i=>i == j || reach .any ops i N j) = true) (hj0 : j < N) (Inv : Array Bool → Act → Prop) (h0 : Inv (Array.replicate N false) a)
   (hstep : ∀ listed a i,Inv listed a → listed.size = N → i < N → i ≠ j → i ∈ Region.ready .any ops listed → ∃ a',Inv (listed.setIfInBounds i true) a' ∧ ∀ rest,K (G (b.at a' (.inRegion ops rest :: k)) cs) → K (G (b.at a (.inRegion ops (i :: rest) :: k)) cs))
   (hend : ∀ listed a,Inv listed a → (∀ i,i < N → i ≠ j → listed.getD i false = true) → K (G (b.at a (.inRegion ops [j] :: k)) cs)) (hd : Region.departs ops = false:=by kernel_rfl) (hcl : clB .any ops (Array.replicate N false) = true:=by kernel_rfl) :
   K (G (b.at a (.code (.region id ops true) :: k)) cs):=by
 refine hD b a k cs id ops fun t=>?_
 unfold Region.schedule Region.linearise
 rw [hd]
 simp only [Bool.not_false,Bool.or_true,if_true]
 rw [hN]
 refine order2_K hN hback hlast hj0 Inv hstep hend N t _ a (cl_of hcl) ?_ (by simp) ?_ h0
 · unfold unl
   rw [Array.toList_replicate,List.countP_replicate]
   simp
 · simp [Array.getD_eq_getD_getElem?,hj0]
theorem opat {i : Nat} {d : Option Nat} {op : Op} (h : (ops[i]?).map (fun o=>(o.dst,o.op,o.guard)) = some (d,op,none)) : ∃ o,ops[i]? = some o ∧ o.dst = d ∧ o.op = op ∧ o.guard = none:=by
 rcases ho : ops[i]? with _ | o
 · rw [ho] at h; cases h
 · rw [ho] at h
   simp only [Option.map_some,Option.some.injEq,Prod.mk.injEq] at h
   exact ⟨o,rfl,h.1,h.2.1,h.2.2⟩
theorem opv {L : List FuncId} {V : World} {i d : Nat} {op : Op} {v : Value} {T : Array Value} {rest : List Nat} (hV : MuV P L V K) (hb : b.kind = .normal) (h : (ops[i]?).map (fun o=>(o.dst,o.op,o.guard)) = some (some d,op,none)) (hok : opOk P L op = true) (hr : ∀ (o : Oper),o.op = op → ∀ τ,(execOp (Act.eval ⟨T,[]⟩) o).run P (re V τ 0) = .ok (.value v) (re V τ 0))
   (hk : K (G (b.at (Act.put ⟨T,[]⟩ (some d) v) (.inRegion ops rest :: k)) cs)) : K (G (b.at ⟨T,[]⟩ (.inRegion ops (i :: rest) :: k)) cs):=by
 obtain ⟨o,ho,hd,hop,hg⟩:=opat h
 exact hV b _ k cs ops i rest o v (.inl hb) ho (wanted_none hg) (by rw [hop]; exact hok) (hr o hop) (by rw [hd]; exact hk)
theorem opc {R : World → Prop} {i f : Nat} {d : Option Nat} {args : Array Operand} {ats : Array TypeId} {fn : Func} {c : Code} {T : Array Value} {rest : List Nat} (hK : Mu P R K) (hb : b.kind = .normal) (h : (ops[i]?).map (fun o => (o.dst, o.op, o.guard)) = some (d, .call { callee := .value (.func f), args, argTypes := ats }, none)) (hf : P.funcs[f]? = some fn) (hname : (fn.name == "runtime.NumGoroutine") = false) (hbd : fn.body = some c)
   (hk : ((ops[i]?).bind (·.dst)) = d → K (G (Frame.enter P f (args.map (Act.eval ⟨T,[]⟩)) .normal) (b.at ⟨T,[]⟩ (.inRegion ops (i :: rest) :: k) :: cs))) : K (G (b.at ⟨T,[]⟩ (.inRegion ops (i :: rest) :: k)) cs):=by
 obtain ⟨o,ho,hd,hop,hg⟩:=opat h
 refine mu_call hK ho (wanted_none hg) (by rw [hb]; decide) hop hf hname hbd ?_
 rw [← enter_at (P:=P) _ hf hbd]
 exact hk (by rw [ho]; exact hd)
end
section
variable {C : Cw} {main : Bool} {Z : Cuts} {Stop : Goroutine → World → Prop} {V : World} {st : Nat → Int} {i mb mo cb : Nat} {c : Frame} {cs : List Frame} {own : Nat → Prop} {qv cv : Value} {q cq : List Nat} {T : Array Value} {kt : List Item} {b₀ : Frame} {a₀ : Act} {ops₀ : Array Oper} {i₀ : Nat} {rest₀ : List Nat} {k₀ : List Item}
theorem will_hand (hn : norm V = V) {ow : Nat} (hO : ∀ a b,a < C.n → b < C.n → C.tb a = C.tb b → a = b) (hcb : ∀ a,a < C.n → C.tb a ≠ C.cb) (hi : i < C.n) (hn1 : C.n < 1000) (H : CwAt C false st V) (L : LsV C V) (h : MuI V own mb mo ow q qv) (hq : ∀ x ∈ q,x < C.n) (hqo : ∀ b,own b → ¬ C.has b)
   (K : ∀ V' qv',UnP C st V own mb mo q qv V' qv' → Will Try.prog main Z Stop (G (c.finish (.tuple #[])) cs) V') : Will Try.prog main Z Stop (G (Frame.enter Try.prog 93 #[.pointer (some ⟨mb,mo,none⟩),C.tp i] .normal) (c :: cs)) V:=by
 have hmb : ¬ C.has mb:=hqo _ h.mown
 cases q with
 | nil =>
   obtain ⟨vb,vc,rfl⟩:=mu_nil h
   refine will_call (R:=fun v V'=>v = .tuple #[] ∧ V' = V.setCell ⟨mb,mo + 1,none⟩ (.int .i64 0)) calm (by decide) (fun τ=>(hand93n (C:=C) (st:=st) (i:=i) (w:=re V τ 0) mb mo vb vc (ow : Int) h.c0 h.c1 h.z1).mono fun e w' hh=>?_) fun v V' hh=>?_
   · obtain ⟨rfl,rfl⟩:=hh
     exact ⟨rfl,norm_set hn _ _⟩
   · obtain ⟨rfl,rfl⟩:=hh
     exact K _ _ (un_nil hn H L h hmb)
 | cons x q =>
   have hx:=hq x List.mem_cons_self
   refine will_call (R:=fun v V'=>v = .tuple #[] ∧ V' = wkW C st x ((V.setCell ⟨mb,mo,none⟩ (cdr 1 qv)).setCell ⟨mb,mo + 1,none⟩ (.int .i64 (x + 1 : Nat)))) calm (by decide) (fun τ=>(hand93 (C:=C) (st:=st) (i:=i) (w:=re V τ 0) mb mo qv q.length (ints q) (ow : Int) hi hx hn1 (H.off fun _ _=>rfl) (L.off fun _ _=>rfl) hmb h.c0 h.z0 h.c1 h.z1 (h.qu.keep fun _ _=>rfl)).mono fun e w' hh=>?_) fun v V' hh=>?_
   · obtain ⟨rfl,rfl⟩:=hh
     refine ⟨rfl,?_⟩
     have hs : norm (((re V τ 0).setCell ⟨mb,mo,none⟩ (cdr 1 qv)).setCell ⟨mb,mo + 1,none⟩ (.int .i64 (x + 1 : Nat))) = (V.setCell ⟨mb,mo,none⟩ (cdr 1 qv)).setCell ⟨mb,mo + 1,none⟩ (.int .i64 (x + 1 : Nat)):=norm_set (norm_set hn _ _) _ _
     unfold wkW
     split
     · exact norm_set (norm_set (norm_set hn _ _) _ _) _ _
     · exact hs
   · obtain ⟨rfl,rfl⟩:=hh
     exact K _ _ (un_cons hn hO hcb hx H L h hmb hqo)
theorem rest_go (hn : norm V = V) {ow : Nat} (hi : i < C.n) (hn1 : C.n < 1000) (H : CwAt C false st V) (ho : V.cell? ⟨mb,mo + 1,none⟩ = some (.int .i64 (ow : Int)))
   (K1 : ow = i + 1 → Will Try.prog main Z Stop (G (b₀.at (a₀.put ((ops₀[i₀]?).bind (·.dst)) (.tuple #[])) (.inRegion ops₀ rest₀ :: k₀)) cs) V)
   (K0 : ow ≠ i + 1 → ∀ f,RsP mb mo (C.tp i) f → Will Try.prog main Z Stop (G (Frame.enter Try.prog 25 #[C.tp i] .normal) (f :: b₀.at a₀ (.inRegion ops₀ (i₀ :: rest₀) :: k₀) :: cs)) V) :
   Will Try.prog main Z Stop (G (Frame.enter Try.prog 92 #[.pointer (some ⟨mb,mo,none⟩),C.tp i] .normal) (b₀.at a₀ (.inRegion ops₀ (i₀ :: rest₀) :: k₀) :: cs)) V:=by
 have e92 : Try.f92.body = some (.block 0 (.loop X92)):=by kernel_rfl
 rw [enter_at (P:=Try.prog) _ Try.func92 e92]
 have hnt : Try.f92.ntmps = 10:=rfl
 rw [hnt]
 refine mu_block mu_will (mu_loop mu_will ?_)
 exact rest_loop hn hi hn1 H ho K1 K0 _ (by simp) (by simp) (by simp)
noncomputable def B49 : Code:=Try.f49.body.getD .skip
noncomputable def P49 : Code:=nva B49
noncomputable def Q49 : Code:=nva (nvb B49)
noncomputable def R49d : Code:=nva (nvb (nvb B49))
noncomputable def o49d : Array Oper:=rops R49d
noncomputable def R49h : Code:=nva (nvb (nvb (nvb B49)))
noncomputable def o49h : Array Oper:=rops R49h
noncomputable def R49r : Code:=nva (nvb (nvb (nvb (nvb B49))))
noncomputable def o49r : Array Oper:=rops R49r
noncomputable def E49 : Code:=nvb (nvb (nvb (nvb (nvb B49))))
theorem B49_eq : Try.f49.body = some (.seq P49 (.seq Q49 (.seq R49d (.seq R49h (.seq R49r E49))))):=by kernel_rfl
def N49 (cb tb mb : Nat) (T : Array Value) : Prop:=T.size = 37 ∧ T[0]? = some (.pointer (some ⟨cb,0,none⟩)) ∧ T[1]? = some (.pointer (some ⟨tb,0,none⟩)) ∧ T[2]? = some (.pointer (some ⟨mb,0,none⟩))
theorem N49.put {cb tb mb : Nat} {T : Array Value} {d : Nat} {v : Value} (h : N49 cb tb mb T) (hd : 3 ≤ d) : N49 cb tb mb (T.setIfInBounds d v):=by
 obtain ⟨h0,h1,h2,h3⟩:=h
 refine ⟨by simp [h0],?_,?_,?_⟩ <;> (rw [Array.getElem?_setIfInBounds_ne (by omega)]; assumption)
def WtR (f : Frame) : Prop:=∃ T,T.size = 37 ∧ f = (base 49).at ⟨T,[]⟩ [.inRegion o49r [2],.code E49]
@[go_sem] theorem build183 (x : Int) (m : Option Addr) (w : World) : (Instr.build 183 #[(0,.int .i64 x),(1,.pointer m)]).run Try.prog w = .ok (.agg #[.int .i64 x,.pointer m]) w:=run_build w 183 _ _ (by kernel_rfl)
def n49deps : Nat → List Nat:=fun i=>match i with | 1=>[0] | 2=>[1] | 4=>[3] | 6=>[4,5] | _=>[]
def n49val (cb tb i mb : Nat) : Nat → Value:=fun k=>match k with | 0=>.pointer (some ⟨cb,0,none⟩) | 1=>.pointer (some ⟨cb,0,none⟩) | 2=>.pointer (some ⟨cb,0,none⟩) | 3=>.pointer (some ⟨tb,0,none⟩) | 4=>.int .i64 (i : Int) | 5=>.pointer (some ⟨mb,0,none⟩) | 6=>.agg #[.int .i64 (i : Int),.pointer (some ⟨mb,0,none⟩)] | _=>undef
def N49I (cb tb i mb : Nat) (listed : Array Bool) (a : Act) : Prop:=a.defers = [] ∧ N49 cb tb mb a.tmps ∧ ∀ j,j < 7 → listed.getD j false = true → a.tmps[23 + j]? = some (n49val cb tb i mb j)
theorem n49_deps : ∀ i,i < 7 → ∃ o,o49d[i]? = some o ∧ o.dst = some (23 + i) ∧ ∀ d ∈ n49deps i,d < i ∧ ∃ e ∈ o.after,e.on = d ∧ Region.binds .any e = true:=by
 have key : ((List.range 7).all fun i=>(o49d[i]?).any fun o=>o.dst == some (23 + i) && (n49deps i).all fun d=>d < i && o.after.any fun e=>e.on == d && Region.binds .any e) = true:=by kernel_rfl
 intro i hi
 have h:=List.all_eq_true.1 key i (List.mem_range.2 hi)
 rcases ho : o49d[i]? with _ | o
 · rw [ho] at h; cases h
 · rw [ho] at h
   simp only [Option.any_some,Bool.and_eq_true,beq_iff_eq,List.all_eq_true,decide_eq_true_eq,Array.any_eq_true'] at h
   refine ⟨o,rfl,h.1,fun d hd=>⟨(h.2 d hd).1,?_⟩⟩
   obtain ⟨e,he,h1,h2⟩:=(h.2 d hd).2
   exact ⟨e,he,h1,h2⟩
theorem n49_0 (hn : norm V = V) (t0 : T[0]? = some (.pointer (some ⟨cb,0,none⟩))) {rest : List Nat} (h : Will Try.prog main Z Stop (G ((base 49).at (Act.put ⟨T,[]⟩ (some 23) (.pointer (some ⟨cb,0,none⟩))) (.inRegion o49d rest :: kt)) cs) V) : Will Try.prog main Z Stop (G ((base 49).at ⟨T,[]⟩ (.inRegion o49d (0 :: rest) :: kt)) cs) V:=by
 refine opv (K:=fun g=>Will Try.prog main Z Stop g V) (L:=Lone) (muv_will hn) rfl (i:=0) (d:=23) (op:=.move (.tmp 0)) (by kernel_rfl) (by kernel_rfl) (fun o ho τ=>?_) h
 simp only [execOp,ho]
 go_simp
theorem n49_1 (hn : norm V = V) (t23 : T[23]? = some (.pointer (some ⟨cb,0,none⟩))) {rest : List Nat} (h : Will Try.prog main Z Stop (G ((base 49).at (Act.put ⟨T,[]⟩ (some 24) (.pointer (some ⟨cb,0,none⟩))) (.inRegion o49d rest :: kt)) cs) V) : Will Try.prog main Z Stop (G ((base 49).at ⟨T,[]⟩ (.inRegion o49d (1 :: rest) :: kt)) cs) V:=by
 refine opv (K:=fun g=>Will Try.prog main Z Stop g V) (L:=Lone) (muv_will hn) rfl (i:=1) (d:=24) (op:=.nilCheck (.tmp 23)) (by kernel_rfl) (by kernel_rfl) (fun o ho τ=>?_) h
 simp only [execOp,ho]
 go_simp
theorem n49_2 (hn : norm V = V) (t24 : T[24]? = some (.pointer (some ⟨cb,0,none⟩))) {rest : List Nat} (h : Will Try.prog main Z Stop (G ((base 49).at (Act.put ⟨T,[]⟩ (some 25) (.pointer (some ⟨cb,0,none⟩))) (.inRegion o49d rest :: kt)) cs) V) : Will Try.prog main Z Stop (G ((base 49).at ⟨T,[]⟩ (.inRegion o49d (2 :: rest) :: kt)) cs) V:=by
 refine opv (K:=fun g=>Will Try.prog main Z Stop g V) (L:=Lone) (muv_will hn) rfl (i:=2) (d:=25) (op:=.fieldAddr 102 (.tmp 24) 0) (by kernel_rfl) (by kernel_rfl) (fun o ho τ=>?_) h
 simp only [execOp,ho]
 go_simp
theorem n49_3 (hn : norm V = V) (t1 : T[1]? = some (.pointer (some ⟨(C.tb i),0,none⟩))) {rest : List Nat} (h : Will Try.prog main Z Stop (G ((base 49).at (Act.put ⟨T,[]⟩ (some 26) (.pointer (some ⟨(C.tb i),0,none⟩))) (.inRegion o49d rest :: kt)) cs) V) : Will Try.prog main Z Stop (G ((base 49).at ⟨T,[]⟩ (.inRegion o49d (3 :: rest) :: kt)) cs) V:=by
 refine opv (K:=fun g=>Will Try.prog main Z Stop g V) (L:=Lone) (muv_will hn) rfl (i:=3) (d:=26) (op:=.move (.tmp 1)) (by kernel_rfl) (by kernel_rfl) (fun o ho τ=>?_) h
 simp only [execOp,ho]
 go_simp
theorem n49_4 (hn : norm V = V) (hi : i < C.n) (H : CwAt C false st V) (t26 : T[26]? = some (.pointer (some ⟨(C.tb i),0,none⟩))) {rest : List Nat} (h : Will Try.prog main Z Stop (G ((base 49).at (Act.put ⟨T,[]⟩ (some 27) (.int .i64 (i : Int))) (.inRegion o49d rest :: kt)) cs) V) : Will Try.prog main Z Stop (G ((base 49).at ⟨T,[]⟩ (.inRegion o49d (4 :: rest) :: kt)) cs) V:=by
 refine opc (K:=fun g=>Will Try.prog main Z Stop g V) mu_will rfl (i:=4) (d:=some 27) (f:=27) (args:=#[.tmp 26]) (ats:=#[50]) (by kernel_rfl) Try.func27 (by kernel_rfl) rfl fun hd=>?_
 have ea : (#[.tmp 26] : Array Operand).map (Act.eval ⟨T,[]⟩) = #[Value.pointer (some ⟨C.tb i,0,none⟩)]:=by simp [t26,Act.eval]
 rw [ea]
 refine will_id (C:=C) hn hi H ?_
 rw [Frame.finish_at,hd]
 exact h
theorem n49_5 (hn : norm V = V) (t2 : T[2]? = some (.pointer (some ⟨mb,0,none⟩))) {rest : List Nat} (h : Will Try.prog main Z Stop (G ((base 49).at (Act.put ⟨T,[]⟩ (some 28) (.pointer (some ⟨mb,0,none⟩))) (.inRegion o49d rest :: kt)) cs) V) : Will Try.prog main Z Stop (G ((base 49).at ⟨T,[]⟩ (.inRegion o49d (5 :: rest) :: kt)) cs) V:=by
 refine opv (K:=fun g=>Will Try.prog main Z Stop g V) (L:=Lone) (muv_will hn) rfl (i:=5) (d:=28) (op:=.move (.tmp 2)) (by kernel_rfl) (by kernel_rfl) (fun o ho τ=>?_) h
 simp only [execOp,ho]
 go_simp
theorem n49_6 (hn : norm V = V) (t27 : T[27]? = some (.int .i64 (i : Int))) (t28 : T[28]? = some (.pointer (some ⟨mb,0,none⟩))) {rest : List Nat} (h : Will Try.prog main Z Stop (G ((base 49).at (Act.put ⟨T,[]⟩ (some 29) (.agg #[.int .i64 (i : Int),.pointer (some ⟨mb,0,none⟩)])) (.inRegion o49d rest :: kt)) cs) V) : Will Try.prog main Z Stop (G ((base 49).at ⟨T,[]⟩ (.inRegion o49d (6 :: rest) :: kt)) cs) V:=by
 refine opv (K:=fun g=>Will Try.prog main Z Stop g V) (L:=Lone) (muv_will hn) rfl (i:=6) (d:=29) (op:=.build 183 #[(0,.tmp 27),(1,.tmp 28)]) (by kernel_rfl) (by kernel_rfl) (fun o ho τ=>?_) h
 simp only [execOp,ho]
 go_simp
theorem n49_step (hn : norm V = V) (hi : i < C.n) (H : CwAt C false st V) (hT : N49 cb (C.tb i) mb T) (j : Nat) (hj : j < 7) (hd : ∀ d ∈ n49deps j,T[23 + d]? = some (n49val cb (C.tb i) i mb d)) {rest : List Nat}
   (h : Will Try.prog main Z Stop (G ((base 49).at (Act.put ⟨T,[]⟩ (some (23 + j)) (n49val cb (C.tb i) i mb j)) (.inRegion o49d rest :: kt)) cs) V) : Will Try.prog main Z Stop (G ((base 49).at ⟨T,[]⟩ (.inRegion o49d (j :: rest) :: kt)) cs) V:=by
 obtain ⟨hs,t0,t1,t2⟩:=hT
 rcases (show j = 0 ∨ j = 1 ∨ j = 2 ∨ j = 3 ∨ j = 4 ∨ j = 5 ∨ j = 6 by omega) with rfl | rfl | rfl | rfl | rfl | rfl | rfl
 · exact n49_0 hn t0 h
 · exact n49_1 hn (hd 0 (by decide)) h
 · exact n49_2 hn (hd 1 (by decide)) h
 · exact n49_3 hn t1 h
 · exact n49_4 hn hi H (hd 3 (by decide)) h
 · exact n49_5 hn t2 h
 · exact n49_6 hn (hd 4 (by decide)) (hd 5 (by decide)) h
theorem n49_go (hn : norm V = V) (hi : i < C.n) (H : CwAt C false st V) (hT : N49 cb (C.tb i) mb T)
   (K : ∀ T',N49 cb (C.tb i) mb T' → Will Try.prog main Z Stop (G (Frame.enter Try.prog 94 #[.pointer (some ⟨cb,0,none⟩),.agg #[.int .i64 (i : Int),.pointer (some ⟨mb,0,none⟩)]] .normal) ((base 49).at ⟨T',[]⟩ (.inRegion o49d [7] :: kt) :: cs)) V) :
   Will Try.prog main Z Stop (G ((base 49).at ⟨T,[]⟩ (.code R49d :: kt)) cs) V:=by
 have e : R49d = .region 5 o49d true:=by kernel_rfl
 rw [e]
 refine order2_go (P:=Try.prog) (K:=fun g=>Will Try.prog main Z Stop g V) (j:=7) (N:=8) mud_will (by kernel_rfl) (by kernel_rfl) (by kernel_rfl) (by decide) (N49I cb (C.tb i) i mb) ⟨rfl,hT,fun j hj h=>by
   rw [show (Array.replicate 8 false).getD j false = false by rw [Array.getD_eq_getD_getElem?,Array.getElem?_replicate]; split <;> rfl] at h
   cases h⟩ (fun listed a j hI hl hj hne hr=>?_) fun listed a hI hall=>?_
 · obtain ⟨T,df⟩:=a
   obtain ⟨hdf,hN,hv⟩:=hI
   obtain rfl : df = []:=hdf
   have hj2 : j < 7:=by omega
   obtain ⟨o,ho,hdst,hdp⟩:=n49_deps j hj2
   refine ⟨_,⟨rfl,hN.put (d:=23 + j) (v:=n49val cb (C.tb i) i mb j) (by omega),fun i' hi' hl'=>?_⟩,fun rest hk=>n49_step hn hi H hN j hj2 (fun d hd=>?_) hk⟩
   · show (T.setIfInBounds (23 + j) (n49val cb (C.tb i) i mb j))[23 + i']? = _
     by_cases e : i' = j
     · subst e
       rw [Array.getElem?_setIfInBounds_self_of_lt (by rw [hN.1]; omega)]
     · rw [Array.getElem?_setIfInBounds_ne (by omega)]
       refine hv i' hi' ?_
       rw [getD_set_ne false (Ne.symm e)] at hl'
       exact hl'
   · obtain ⟨h1,e,he,h2,h3⟩:=hdp d hd
     obtain ⟨_,o',ho',hall⟩:=mem_ready.1 hr
     rw [ho] at ho'
     obtain rfl:=Option.some.inj ho'
     have:=hall e he h3
     rw [h2] at this
     exact hv d (by omega) this
 · obtain ⟨T,df⟩:=a
   obtain ⟨hdf,hN,hv⟩:=hI
   obtain rfl : df = []:=hdf
   have t25:=hv 2 (by omega) (hall 2 (by omega) (by omega))
   have t29:=hv 6 (by omega) (hall 6 (by omega) (by omega))
   refine opc (K:=fun g=>Will Try.prog main Z Stop g V) mu_will rfl (i:=7) (d:=some 30) (f:=94) (args:=#[.tmp 25,.tmp 29]) (ats:=#[100,183]) (by kernel_rfl) Try.func94 (by kernel_rfl) rfl fun hd=>?_
   have ea : (#[.tmp 25,.tmp 29] : Array Operand).map (Act.eval ⟨T,[]⟩) = #[Value.pointer (some ⟨cb,0,none⟩),Value.agg #[.int .i64 (i : Int),.pointer (some ⟨mb,0,none⟩)]]:=by
     simp [Act.eval,t25,t29,n49val]
   rw [ea]
   exact K T hN
theorem r49h_in (hn : norm V = V) (hT : N49 cb (C.tb i) mb T) (K : ∀ T',N49 cb (C.tb i) mb T' → Will Try.prog main Z Stop (G (Frame.enter Try.prog 93 #[.pointer (some ⟨mb,0,none⟩),.pointer (some ⟨(C.tb i),0,none⟩)] .normal) ((base 49).at ⟨T',[]⟩ (.inRegion o49h [2] :: kt) :: cs)) V) :
   Will Try.prog main Z Stop (G ((base 49).at ⟨T,[]⟩ (.code R49h :: kt)) cs) V:=by
 have e : R49h = .region 6 o49h false:=by kernel_rfl
 rw [e]
 have hr : List.range o49h.size = [0,1,2]:=by kernel_rfl
 refine mu_region mu_will ?_
 rw [hr]
 have t1:=hT.2.2.1
 have t2:=hT.2.2.2
 refine opv (K:=fun g=>Will Try.prog main Z Stop g V) (L:=Lone) (muv_will hn) rfl (i:=0) (d:=31) (op:=.move (.tmp 2)) (v:=.pointer (some ⟨mb,0,none⟩)) (by kernel_rfl) (by kernel_rfl) (fun o ho τ=>?_) ?_
 · simp only [execOp,ho]
   go_simp
 have hT2:=hT.put (d:=31) (v:=.pointer (some ⟨mb,0,none⟩)) (by decide)
 have t31 : (T.setIfInBounds 31 (.pointer (some ⟨mb,0,none⟩)))[31]? = some (.pointer (some ⟨mb,0,none⟩)):=by rw [Array.getElem?_setIfInBounds_self_of_lt (by rw [hT.1]; decide)]
 show Will Try.prog main Z Stop (G ((base 49).at ⟨T.setIfInBounds 31 (.pointer (some ⟨mb,0,none⟩)),[]⟩ (.inRegion o49h [1,2] :: kt)) cs) V
 generalize T.setIfInBounds 31 (.pointer (some ⟨mb,0,none⟩)) = T2 at *
 clear t1 t2
 have t1:=hT2.2.2.1
 refine opv (K:=fun g=>Will Try.prog main Z Stop g V) (L:=Lone) (muv_will hn) rfl (i:=1) (d:=32) (op:=.move (.tmp 1)) (v:=.pointer (some ⟨(C.tb i),0,none⟩)) (by kernel_rfl) (by kernel_rfl) (fun o ho τ=>?_) ?_
 · simp only [execOp,ho]
   go_simp
 have hT3:=hT2.put (d:=32) (v:=.pointer (some ⟨(C.tb i),0,none⟩)) (by decide)
 have t32 : (T2.setIfInBounds 32 (.pointer (some ⟨(C.tb i),0,none⟩)))[32]? = some (.pointer (some ⟨(C.tb i),0,none⟩)):=by rw [Array.getElem?_setIfInBounds_self_of_lt (by rw [hT2.1]; decide)]
 have s31 : (T2.setIfInBounds 32 (.pointer (some ⟨(C.tb i),0,none⟩)))[31]? = some (.pointer (some ⟨mb,0,none⟩)):=by rw [Array.getElem?_setIfInBounds_ne (by decide)]; exact t31
 show Will Try.prog main Z Stop (G ((base 49).at ⟨T2.setIfInBounds 32 (.pointer (some ⟨(C.tb i),0,none⟩)),[]⟩ (.inRegion o49h [2] :: kt)) cs) V
 generalize T2.setIfInBounds 32 (.pointer (some ⟨(C.tb i),0,none⟩)) = T3 at *
 refine opc (K:=fun g=>Will Try.prog main Z Stop g V) mu_will rfl (i:=2) (d:=some 33) (f:=93) (args:=#[.tmp 31,.tmp 32]) (ats:=#[104,50]) (by kernel_rfl) Try.func93 (by kernel_rfl) rfl fun hd=>?_
 have ea : (#[.tmp 31,.tmp 32] : Array Operand).map (Act.eval ⟨T3,[]⟩) = #[Value.pointer (some ⟨mb,0,none⟩),Value.pointer (some ⟨(C.tb i),0,none⟩)]:=by simp [Act.eval,s31,t32]
 rw [ea]
 exact K T3 hT3
theorem r49r_in (hn : norm V = V) (hT : N49 cb (C.tb i) mb T) (K : ∀ T',N49 cb (C.tb i) mb T' → Will Try.prog main Z Stop (G (Frame.enter Try.prog 92 #[.pointer (some ⟨mb,0,none⟩),.pointer (some ⟨(C.tb i),0,none⟩)] .normal) ((base 49).at ⟨T',[]⟩ (.inRegion o49r [2] :: kt) :: cs)) V) :
   Will Try.prog main Z Stop (G ((base 49).at ⟨T,[]⟩ (.code R49r :: kt)) cs) V:=by
 have e : R49r = .region 7 o49r false:=by kernel_rfl
 rw [e]
 have hr : List.range o49r.size = [0,1,2]:=by kernel_rfl
 refine mu_region mu_will ?_
 rw [hr]
 have t1:=hT.2.2.1
 have t2:=hT.2.2.2
 refine opv (K:=fun g=>Will Try.prog main Z Stop g V) (L:=Lone) (muv_will hn) rfl (i:=0) (d:=34) (op:=.move (.tmp 2)) (v:=.pointer (some ⟨mb,0,none⟩)) (by kernel_rfl) (by kernel_rfl) (fun o ho τ=>?_) ?_
 · simp only [execOp,ho]
   go_simp
 have hT2:=hT.put (d:=34) (v:=.pointer (some ⟨mb,0,none⟩)) (by decide)
 have t34 : (T.setIfInBounds 34 (.pointer (some ⟨mb,0,none⟩)))[34]? = some (.pointer (some ⟨mb,0,none⟩)):=by rw [Array.getElem?_setIfInBounds_self_of_lt (by rw [hT.1]; decide)]
 show Will Try.prog main Z Stop (G ((base 49).at ⟨T.setIfInBounds 34 (.pointer (some ⟨mb,0,none⟩)),[]⟩ (.inRegion o49r [1,2] :: kt)) cs) V
 generalize T.setIfInBounds 34 (.pointer (some ⟨mb,0,none⟩)) = T2 at *
 clear t1 t2
 have t1:=hT2.2.2.1
 refine opv (K:=fun g=>Will Try.prog main Z Stop g V) (L:=Lone) (muv_will hn) rfl (i:=1) (d:=35) (op:=.move (.tmp 1)) (v:=.pointer (some ⟨(C.tb i),0,none⟩)) (by kernel_rfl) (by kernel_rfl) (fun o ho τ=>?_) ?_
 · simp only [execOp,ho]
   go_simp
 have hT3:=hT2.put (d:=35) (v:=.pointer (some ⟨(C.tb i),0,none⟩)) (by decide)
 have t35 : (T2.setIfInBounds 35 (.pointer (some ⟨(C.tb i),0,none⟩)))[35]? = some (.pointer (some ⟨(C.tb i),0,none⟩)):=by rw [Array.getElem?_setIfInBounds_self_of_lt (by rw [hT2.1]; decide)]
 have s34 : (T2.setIfInBounds 35 (.pointer (some ⟨(C.tb i),0,none⟩)))[34]? = some (.pointer (some ⟨mb,0,none⟩)):=by rw [Array.getElem?_setIfInBounds_ne (by decide)]; exact t34
 show Will Try.prog main Z Stop (G ((base 49).at ⟨T2.setIfInBounds 35 (.pointer (some ⟨(C.tb i),0,none⟩)),[]⟩ (.inRegion o49r [2] :: kt)) cs) V
 generalize T2.setIfInBounds 35 (.pointer (some ⟨(C.tb i),0,none⟩)) = T3 at *
 refine opc (K:=fun g=>Will Try.prog main Z Stop g V) mu_will rfl (i:=2) (d:=some 36) (f:=92) (args:=#[.tmp 34,.tmp 35]) (ats:=#[104,50]) (by kernel_rfl) Try.func92 (by kernel_rfl) rfl fun hd=>?_
 have ea : (#[.tmp 34,.tmp 35] : Array Operand).map (Act.eval ⟨T3,[]⟩) = #[Value.pointer (some ⟨mb,0,none⟩),Value.pointer (some ⟨(C.tb i),0,none⟩)]:=by simp [Act.eval,s34,t35]
 rw [ea]
 exact K T3 hT3
end
end Go.Proofs.Ytibcdikfbhmheaa

namespace Go.Proofs.Ytibcdikfbhmheaa
open Go Go.Conc Go.Proofs
open Go.ConcN (sumTo upd sumTo_upd upd_ne upd_same)
set_option linter.unusedVariables false
end Go.Proofs.Ytibcdikfbhmheaa
