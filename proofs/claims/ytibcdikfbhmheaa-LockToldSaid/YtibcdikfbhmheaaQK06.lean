import Derived.Test.YtibcdikfbhmheaaQK02
import Derived.Test.YtibcdikfbhmheaaQK05
set_option linter.unusedSimpArgs false
set_option linter.unusedVariables false
set_option maxRecDepth 100000
set_option maxHeartbeats 4000000
namespace Go.Proofs.Ytibcdikfbhmheaa
open Go Go.Conc Go.Proofs
open Go.ConcN (sumTo upd sumTo_upd upd_ne upd_same)
set_option linter.unusedVariables false
theorem wreg_go {main : Bool} {Z : Cuts} {Stop : Goroutine → World → Prop} {V V1 : World} {F z : Nat} {l : List (Nat × Value)} {T : Array Value} {c : Code} {kt : List Item} {cs : List Frame} (hf : ∃ fn,Try.prog.funcs[F]? = some fn) (hs : shut Try.prog Lone [] c = true)
   (K : ∀ T',Fg z l T' → Will Try.prog main Z Stop (G ((base F).at ⟨T',[]⟩ kt) cs) V1) (hC : ∀ τ,c.wp Try.prog (fun e a' w'=>match e with | .normal=>(norm w' = V1 ∧ Fg z l a'.tmps) ∧ a'.defers = [] | _=>False) ⟨T,[]⟩ (re V τ 0)) : Will Try.prog main Z Stop (G ((base F).at ⟨T,[]⟩ (.code c :: kt)) cs) V :=
 will_code (L:=Lone) (R:=fun aa V'=>V' = V1 ∧ Fg z l aa.tmps) calm rfl hf rfl hs hC fun a' V' ⟨q0,gs⟩ ha'=>by
   obtain ⟨T',df⟩:=a'
   simp only at ha' gs
   subst ha' q0
   exact K T' gs
theorem wreg_gb {main : Bool} {Z : Cuts} {Stop : Goroutine → World → Prop} {V V1 : World} {F z j : Nat} {x : Bool} {l : List (Nat × Value)} {T : Array Value} {c : Code} {kt : List Item} {cs : List Frame} (hf : ∃ fn,Try.prog.funcs[F]? = some fn) (hs : shut Try.prog Lone [] c = true)
   (K : ∀ T',Fg z l T' → T'[j]? = some (.bool x) → Will Try.prog main Z Stop (G ((base F).at ⟨T',[]⟩ kt) cs) V1) (hC : ∀ τ,c.wp Try.prog (fun e a' w'=>match e with | .normal=>(norm w' = V1 ∧ Fg z l a'.tmps ∧ a'.tmps[j]? = some (.bool x)) ∧ a'.defers = [] | _=>False) ⟨T,[]⟩ (re V τ 0)) : Will Try.prog main Z Stop (G ((base F).at ⟨T,[]⟩ (.code c :: kt)) cs) V :=
 will_code (L:=Lone) (R:=fun aa V'=>V' = V1 ∧ Fg z l aa.tmps ∧ aa.tmps[j]? = some (.bool x)) calm rfl hf rfl hs hC fun a' V' ⟨q0,gs,gb⟩ ha'=>by
   obtain ⟨T',df⟩:=a'
   simp only at ha' gs gb
   subst ha' q0
   exact K T' gs gb
theorem arrg_QK06 {n : Nat} (T : Array Value) (h : T.size = n) : ∃ f : Nat → Value,(∀ i v,T[i]? = some v → f i = v) ∧ T = ((List.range n).map f).toArray:=by
 refine ⟨fun i=>T.getD i undef,fun i v hv=>by simp [Array.getD_eq_getD_getElem?,hv],?_⟩
 generalize hf : (fun i=>T.getD i undef) = f
 have e : T.toList = (List.range n).map f:=by
   apply List.ext_getElem?
   intro i
   rw [List.getElem?_map,Array.getElem?_toList]
   by_cases hi : i < n
   · rw [List.getElem?_range hi,Option.map_some,← hf]
     simp [Array.getD_eq_getD_getElem?,Array.getElem?_eq_getElem (show i < T.size by omega)]
   · rw [List.getElem?_eq_none (by simp; omega),Array.getElem?_eq_none (by omega)]
     rfl
 rw [← Array.toArray_toList (xs:=T),e]
theorem array24f (T : Array Value) (h : T.size = 24) : ∃ f : Nat → Value,(∀ i v,T[i]? = some v → f i = v) ∧ T = #[f 0,f 1,f 2,f 3,f 4,f 5,f 6,f 7,f 8,f 9,f 10,f 11,f 12,f 13,f 14,f 15,f 16,f 17,f 18,f 19,f 20,f 21,f 22,f 23]:=arrg_QK06 T h
section
variable {C : Cw} {main : Bool} {Z : Cuts} {Stop : Goroutine → World → Prop} {V : World} {st : Nat → Int} {i mb cb : Nat} {cs : List Frame} {own : Nat → Prop} {qv cv : Value} {q cq : List Nat} {T : Array Value} {kt : List Item} {b₀ : Frame} {a₀ : Act} {ops₀ : Array Oper} {i₀ : Nat} {rest₀ : List Nat} {k₀ : List Item}
theorem w49_in (hn : norm V = V) (hi : i < C.n) (hn1 : C.n < 1000) (H : CwAt C false st V) (ho : V.cell? ⟨mb,1,none⟩ = some (.int .i64 ((i + 1 : Nat) : Int))) (K : ∀ T,N49 cb (C.tb i) mb T → Will Try.prog main Z Stop (G ((base 49).at ⟨T,[]⟩ [.code R49d,.code (.seq R49h (.seq R49r E49))]) (b₀.at a₀ (.inRegion ops₀ (i₀ :: rest₀) :: k₀) :: cs)) V) :
   Will Try.prog main Z Stop (G (Frame.enter Try.prog 49 #[.pointer (some ⟨cb,0,none⟩),C.tp i,.pointer (some ⟨mb,0,none⟩)] .normal) (b₀.at a₀ (.inRegion ops₀ (i₀ :: rest₀) :: k₀) :: cs)) V:=by
 have e1 : (((i + 1 : Nat) : Int) == (i : Int) + 1) = true:=by simp
 have HAS:=fun (d : Frame) (ds : List Frame)=>will_has (mo:=0) (main:=main) (Z:=Z) (Stop:=Stop) (c:=d) (cs:=ds) hn hi hn1 H ho
 rw [e1] at HAS
 simp only [Cw.tp] at HAS ⊢
 clear H ho e1
 have hK0:=K
 clear K
 rw [enter_at (P:=Try.prog) _ Try.func49 B49_eq]
 have hnt : Try.f49.ntmps = 37:=rfl
 rw [hnt]
 clear hnt
 refine mu_seq mu_will ?_
 generalize hX : P49 = X
 simp only [P49,B49,nva,Try.f49,Option.getD_some] at hX
 subst hX
 generalize hZ : Code.seq R49d (.seq R49h (.seq R49r E49)) = ZZ
 walk_nrm
 obtain ⟨K,hK,hV,key,yek⟩:=kKV (L:=Lone) (J:=fun g=>Will Try.prog main Z Stop g V) mu_will (muv_will hn)
 refine key _ ?_
 refine mu_regionH hK (fun kk hkk=>?_)
 simp only [List.size_toArray,List.length_cons,List.length_nil,Nat.reduceAdd,Nat.zero_add,List.range,List.range.loop]
 refine muv_val hV rfl (.inl rfl) rfl (by kernel_rfl) (fun J hJ=>?_)
 go_simp
 with_reducible refine hJ _ ?_
 clear hJ J
 walk_nrm
 refine mu_region_end hK ?_
 subst hkk
 refine mu_seq hK ?_
 generalize hX : Q49 = X
 simp only [Q49,B49,nva,nvb,Try.f49,Option.getD_some] at hX
 subst hX
 repeat (first|(with_reducible first|refine mu_seq hK ?_|refine mu_skip hK ?_|(refine mu_region_end hK ?_;try subst hkk)|refine mu_block hK ?_|refine mu_inBlock hK ?_|refine mu_ret hK ?_|refine mu_end hK ?_)|refine mu_exit hK rfl ?_|(with_reducible refine mu_regionH hK (fun kk hkk=>?_);simp only [List.size_toArray,List.length_cons,List.length_nil,Nat.reduceAdd,Nat.zero_add,List.range,List.range.loop])|(with_reducible refine mu_cf hK ?_ ?_;(· first|(walk_nrm;done)|(simp [Act.eval];done)))|(with_reducible refine mu_ct hK ?_ ?_;(· first|(walk_nrm;done)|(simp [Act.eval];done)))|(refine mu_unwanted hK rfl rfl ?_;walk_nrm)|(refine muv_val hV rfl (by first|exact .inl rfl|exact .inr rfl) rfl (by kernel_rfl) (fun J hJ=>?_);go_simp;with_reducible refine hJ _ ?_;clear hJ J;walk_nrm))
 refine mu_call hK rfl rfl (by decide) rfl Try.func90 (by kernel_rfl) rfl ?_
 rw [← enter_at (P:=Try.prog) _ Try.func90 rfl]
 walk_nrm
 refine yek _ ?_
 clear hK hV key yek K
 refine HAS _ _ ?_
 rw [Frame.finish_at]
 walk_nrm
 obtain ⟨K,hK,hV,key,yek⟩:=kKV (L:=Lone) (J:=fun g=>Will Try.prog main Z Stop g V) mu_will (muv_will hn)
 refine key _ ?_
 repeat (first|(with_reducible first|refine mu_seq hK ?_|refine mu_skip hK ?_|(refine mu_region_end hK ?_;try subst hkk)|refine mu_block hK ?_|refine mu_inBlock hK ?_|refine mu_ret hK ?_|refine mu_end hK ?_)|refine mu_exit hK rfl ?_|(with_reducible refine mu_regionH hK (fun kk hkk=>?_);simp only [List.size_toArray,List.length_cons,List.length_nil,Nat.reduceAdd,Nat.zero_add,List.range,List.range.loop])|(with_reducible refine mu_cf hK ?_ ?_;(· first|(walk_nrm;done)|(simp [Act.eval];done)))|(with_reducible refine mu_ct hK ?_ ?_;(· first|(walk_nrm;done)|(simp [Act.eval];done)))|(refine mu_unwanted hK rfl rfl ?_;walk_nrm)|(refine muv_val hV rfl (by first|exact .inl rfl|exact .inr rfl) rfl (by kernel_rfl) (fun J hJ=>?_);go_simp;with_reducible refine hJ _ ?_;clear hJ J;walk_nrm))
 subst hZ
 refine mu_seq hK ?_
 refine yek _ ?_
 clear hK hV key yek K
 refine hK0 _ ⟨by simp,rfl,rfl,rfl⟩
theorem wait_in (hn : norm V = V) (hO : ∀ a b,a < C.n → b < C.n → C.tb a = C.tb b → a = b) (hcc : ∀ a,a < C.n → C.tb a ≠ C.cb) (hi : i < C.n) (hn1 : C.n < 1000) (H : CwAt C false st V) (L : LsV C V) (M : MuI V own mb 0 (i + 1) q qv) (hq : ∀ x ∈ q,x < C.n ∧ x ≠ i) (hqo : ∀ b,own b → ¬ C.has b)
   (ecb : V.heap[cb]? = some (.cells #[cv] 102 (0,0))) (ocb : own cb) (hne : mb ≠ cb) (Q : Qu V 183 2 cv cq.length (wts mb cq)) (ocv : ∀ b,cv.ownBlock = some b → own b) (h1 : cv.ownBlock ≠ some cb) (h2 : cv.ownBlock ≠ some mb) (h3 : qv.ownBlock ≠ some cb) (hlen : cq.length < 1000)
   (K : ∀ V1 cv' V2 qv' f g,PuW V cb cv cq.length (wts mb cq) i (.pointer (some ⟨mb,0,none⟩)) V1 cv' → UnP C st V1 own mb 0 q qv V2 qv' → RsP mb 0 (C.tp i) f → WtR g → Will Try.prog main Z Stop (G (Frame.enter Try.prog 25 #[C.tp i] .normal) (f :: g :: b₀.at a₀ (.inRegion ops₀ (i₀ :: rest₀) :: k₀) :: cs)) V2) :
   Will Try.prog main Z Stop (G (Frame.enter Try.prog 49 #[.pointer (some ⟨cb,0,none⟩),C.tp i,.pointer (some ⟨mb,0,none⟩)] .normal) (b₀.at a₀ (.inRegion ops₀ (i₀ :: rest₀) :: k₀) :: cs)) V:=by
 refine w49_in hn hi hn1 H M.c1 fun T hT=>?_
 refine n49_go hn hi H hT fun T1 hT1=>?_
 refine will_push hn ecb Q (by omega) h1 fun V1 cv' PU=>?_
 have hd : ((o49d[7]?).map (·.dst)) = some (some 30):=by kernel_rfl
 have hd2 : ((o49d[7]?).bind (·.dst)) = some 30:=by
   rcases ho : o49d[7]? with _ | o
   · rw [ho] at hd; cases hd
   · rw [ho] at hd; simpa using hd
 rw [hd2]
 refine mu_region_end mu_will (mu_seq mu_will ?_)
 have hlt:=has_lt H L (by omega)
 have hoff : ∀ b,C.has b → V1.heap[b]? = V.heap[b]?:=fun b hb=>PU.keep b (hlt b hb) (fun e=>hqo cb ocb (e ▸ hb)) (fun e=>hqo b (ocv b e) hb)
 have H1:=H.off hoff
 have L1:=L.off hoff
 have M1 : MuI V1 own mb 0 (i + 1) q qv:=M.keep2 (PU.keep mb (cell_lk M.c0) hne h2) fun b hb=>PU.keep b (M.qu.at_ hb) (fun e=>h3 (e ▸ hb)) (qu_ne M.qu Q (by decide) hb)
 refine r49h_in PU.nrm (hT1.put (d:=30) (by decide)) fun T2 hT2=>?_
 refine will_hand PU.nrm hO hcc hi hn1 H1 L1 M1 (fun x hx=>(hq x hx).1) hqo fun V2 qv' U=>?_
 have hd3 : ((o49h[2]?).map (·.dst)) = some (some 33):=by kernel_rfl
 have hd4 : ((o49h[2]?).bind (·.dst)) = some 33:=by
   rcases ho : o49h[2]? with _ | o
   · rw [ho] at hd3; cases hd3
   · rw [ho] at hd3; simpa using hd3
 rw [Frame.finish_at,hd4]
 refine mu_region_end mu_will (mu_seq mu_will ?_)
 refine r49r_in U.nrm (hT2.put (d:=33) (by decide)) fun T3 hT3=>?_
 have how : unOw q ≠ i + 1:=by
   cases q with
   | nil=>show 0 ≠ i + 1; omega
   | cons x l =>
     have:=(hq x List.mem_cons_self).2
     show x + 1 ≠ i + 1; omega
 refine rest_go U.nrm hi hn1 U.cw (mo:=0) U.mu.c1 (fun e=>absurd e how) fun _ f hf=>?_
 exact K V1 cv' V2 qv' f _ PU U hf ⟨T3,hT3.1,rfl⟩
theorem wait_ret (hn : norm V = V) (K1 : Will Try.prog main Z Stop (G (b₀.at (a₀.put ((ops₀[i₀]?).bind (·.dst)) (.int .i64 0)) (.inRegion ops₀ rest₀ :: k₀)) cs) V)
   {b : Frame} {a : Act} {ops : Array Oper} {j : Nat} {rest : List Nat} {k : List Item} (hfr : WtR (b.at a (.inRegion ops (j :: rest) :: k))) :
   Will Try.prog main Z Stop (G (b.at (a.put ((ops[j]?).bind (·.dst)) (.tuple #[])) (.inRegion ops rest :: k)) (b₀.at a₀ (.inRegion ops₀ (i₀ :: rest₀) :: k₀) :: cs)) V:=by
 obtain ⟨T,hs,e⟩:=hfr
 obtain ⟨rfl,e2,e3⟩:=at_inj e
 obtain ⟨rfl,e4,rfl⟩:=item_inj e2
 obtain ⟨rfl,rfl⟩:=List.cons.inj e4
 rw [e3]
 have hK0:=K1
 clear K1 e e2 e3 e4
 have hd : ((o49r[2]?).map (·.dst)) = some (some 36):=by kernel_rfl
 have hd2 : ((o49r[2]?).bind (·.dst)) = some 36:=by
   rcases ho : o49r[2]? with _ | o
   · rw [ho] at hd; cases hd
   · rw [ho] at hd; simpa using hd
 rw [hd2]
 refine mu_region_end mu_will ?_
 show Will Try.prog main Z Stop (G ((base 49).at ⟨T.setIfInBounds 36 (.tuple #[]),[]⟩ [.code E49]) (b₀.at a₀ (.inRegion ops₀ (i₀ :: rest₀) :: k₀) :: cs)) V
 have hs2 : (T.setIfInBounds 36 (.tuple #[])).size = 37:=by simpa using hs
 generalize T.setIfInBounds 36 (.tuple #[]) = T2 at *
 clear hs hd hd2
 have hs:=hs2
 clear hs2
 obtain ⟨f,hf,hT⟩:=array37f T2 hs
 rw [hT]
 clear hf hs
 subst hT
 generalize hX : E49 = X
 simp only [E49,B49,nvb,Try.f49,Option.getD_some] at hX
 subst hX
 obtain ⟨K,hK,hV,key,yek⟩:=kKV (L:=Lone) (J:=fun g=>Will Try.prog main Z Stop g V) mu_will (muv_will hn)
 refine key _ ?_
 repeat (first|(with_reducible first|refine mu_seq hK ?_|refine mu_skip hK ?_|(refine mu_region_end hK ?_;try subst hkk)|refine mu_block hK ?_|refine mu_inBlock hK ?_|refine mu_ret hK ?_|refine mu_end hK ?_)|refine mu_exit hK rfl ?_|(with_reducible refine mu_regionH hK (fun kk hkk=>?_);simp only [List.size_toArray,List.length_cons,List.length_nil,Nat.reduceAdd,Nat.zero_add,List.range,List.range.loop])|(with_reducible refine mu_cf hK ?_ ?_;(· first|(walk_nrm;done)|(simp [Act.eval];done)))|(with_reducible refine mu_ct hK ?_ ?_;(· first|(walk_nrm;done)|(simp [Act.eval];done)))|(refine mu_unwanted hK rfl rfl ?_;walk_nrm)|(refine muv_val hV rfl (by first|exact .inl rfl|exact .inr rfl) rfl (by kernel_rfl) (fun J hJ=>?_);go_simp;with_reducible refine hJ _ ?_;clear hJ J;walk_nrm))
 refine mu_leave1 hK rfl rfl Try.func49 rfl ?_
 refine yek _ ?_
 clear hK hV key yek K
 exact hK0
end
noncomputable def wB : Code:=Try.f48.body.getD .skip
noncomputable def w0 : Code:=nva wB
noncomputable def wX1 : Code:=nvb wB
noncomputable def w1 : Code:=nva (nva wX1)
noncomputable def wL : Code:=nvl (nvk (nvb (nva wX1)))
noncomputable def wX5 : Code:=nvb wX1
noncomputable def w5 : Code:=nva (nva wX5)
noncomputable def w6 : Code:=nvc (nvb (nva wX5))
noncomputable def w7 : Code:=nvb wX5
noncomputable def w2 : Code:=nva (nva wL)
noncomputable def w4 : Code:=nvk (nva (nvb wL))
noncomputable def w3 : Code:=nvb (nvb wL)
noncomputable def wo0 : Array Oper:=rops w0
noncomputable def wo4 : Array Oper:=rops w4
noncomputable def wo7 : Array Oper:=rops w7
theorem wL_eq : wL = .seq (.seq w2 (.cond (.tmp 14) .skip (.exit 0))) (.seq (.block 1 w4) w3):=by kernel_rfl
section
variable {main : Bool} {Z : Cuts} {Stop : Goroutine → World → Prop} {V : World} {tb mb sb cb hb lb k y thr : Nat} {u : Int} {so : Bool} {T : Array Value} {kt : List Item} {cs0 : List Frame} {b₀ : Frame} {a₀ : Act} {ops₀ : Array Oper} {i₀ : Nat} {rest₀ : List Nat} {k₀ : List Item}
theorem w48_0 (hn : norm V = V) (hT : Fg 24 [(0,.pointer (some ⟨tb,0,none⟩)),(1,.pointer (some ⟨mb,0,none⟩)),(2,.pointer (some ⟨sb,0,none⟩)),(3,.pointer (some ⟨cb,0,none⟩)),(4,.pointer (some ⟨hb,0,none⟩))] T) (K : ∀ T',Fg 24 [(0,.pointer (some ⟨tb,0,none⟩)),(1,.pointer (some ⟨mb,0,none⟩)),(2,.pointer (some ⟨sb,0,none⟩)),(3,.pointer (some ⟨cb,0,none⟩)),(4,.pointer (some ⟨hb,0,none⟩))] T' → Will Try.prog main Z Stop (G (Frame.enter Try.prog 45 #[.pointer (some ⟨mb,0,none⟩),.pointer (some ⟨tb,0,none⟩)] .normal) ((base 48).at ⟨T',[]⟩ (.inRegion wo0 [1] :: kt) :: cs0)) V) :
   Will Try.prog main Z Stop (G ((base 48).at ⟨T,[]⟩ (.code w0 :: kt)) cs0) V:=by
 have e : w0 = .region 0 wo0 false:=by kernel_rfl
 rw [e]
 have hr : List.range wo0.size = [0,1]:=by kernel_rfl
 refine mu_region mu_will ?_
 rw [hr]
 obtain ⟨hs,h0,h1,h2,h3,h4,-⟩:=hT
 refine opv (K:=fun g=>Will Try.prog main Z Stop g V) (L:=Lone) (muv_will hn) rfl (i:=0) (d:=7) (op:=.move (.tmp 0)) (v:=.pointer (some ⟨tb,0,none⟩)) (by kernel_rfl) (by kernel_rfl) (fun o ho τ=>?_) ?_
 · clear hs
   simp only [execOp,ho]
   go_simp
 have hT : Fg 24 [(0,.pointer (some ⟨tb,0,none⟩)),(1,.pointer (some ⟨mb,0,none⟩)),(2,.pointer (some ⟨sb,0,none⟩)),(3,.pointer (some ⟨cb,0,none⟩)),(4,.pointer (some ⟨hb,0,none⟩))] (T.setIfInBounds 7 (.pointer (some ⟨tb,0,none⟩))):=by
   refine ⟨by simp [hs],?_,?_,?_,?_,?_,trivial⟩ <;> (rw [Array.getElem?_setIfInBounds_ne (by decide)]; assumption)
 have m7 : (T.setIfInBounds 7 (.pointer (some ⟨tb,0,none⟩)))[7]? = some (.pointer (some ⟨tb,0,none⟩)):=by rw [Array.getElem?_setIfInBounds_self_of_lt (by rw [hs]; decide)]
 show Will Try.prog main Z Stop (G ((base 48).at ⟨T.setIfInBounds 7 (.pointer (some ⟨tb,0,none⟩)),[]⟩ (.inRegion wo0 [1] :: kt)) cs0) V
 generalize T.setIfInBounds 7 (.pointer (some ⟨tb,0,none⟩)) = X0 at *
 clear hs h0 h1 h2 h3 h4
 have hT2:=hT
 obtain ⟨hs,h0,h1,h2,h3,h4,-⟩:=hT
 have hd0 : (wo0[1]?).map (·.dst) = some (some 8):=by kernel_rfl
 refine opc (K:=fun g=>Will Try.prog main Z Stop g V) mu_will rfl (i:=1) (d:=some 8) (f:=45) (args:=#[.tmp 1,.tmp 7]) (ats:=#[95,50]) (by kernel_rfl) Try.func45 (by kernel_rfl) rfl fun hd=>?_
 have ea : (#[.tmp 1,.tmp 7] : Array Operand).map (Act.eval ⟨X0,[]⟩) = #[Value.pointer (some ⟨mb,0,none⟩),Value.pointer (some ⟨tb,0,none⟩)]:=by simp [Act.eval,h1,m7]
 rw [ea]
 exact K X0 hT2
theorem w48_0o {v : Value} (hT : Fg 24 [(0,.pointer (some ⟨tb,0,none⟩)),(1,.pointer (some ⟨mb,0,none⟩)),(2,.pointer (some ⟨sb,0,none⟩)),(3,.pointer (some ⟨cb,0,none⟩)),(4,.pointer (some ⟨hb,0,none⟩))] T) (K : ∀ T',Fg 24 [(0,.pointer (some ⟨tb,0,none⟩)),(1,.pointer (some ⟨mb,0,none⟩)),(2,.pointer (some ⟨sb,0,none⟩)),(3,.pointer (some ⟨cb,0,none⟩)),(4,.pointer (some ⟨hb,0,none⟩))] T' → Will Try.prog main Z Stop (G ((base 48).at ⟨T',[]⟩ kt) cs0) V) :
   Will Try.prog main Z Stop (G ((base 48).at (Act.put ⟨T,[]⟩ ((wo0[1]?).bind (·.dst)) v) (.inRegion wo0 [] :: kt)) cs0) V:=by
 have hd : (wo0[1]?).map (·.dst) = some (some 8):=by kernel_rfl
 have hd2 : (wo0[1]?).bind (·.dst) = some 8:=by
   rcases ho : wo0[1]? with _ | o
   · rw [ho] at hd; cases hd
   · rw [ho] at hd; simpa using hd
 rw [hd2]
 refine mu_region_end mu_will (K (T.setIfInBounds 8 v) ?_)
 obtain ⟨hs,h0,h1,h2,h3,h4,-⟩:=hT
 refine ⟨by simpa using hs,?_,?_,?_,?_,?_,trivial⟩ <;> (rw [Array.getElem?_setIfInBounds_ne (by decide)]; assumption)
theorem w48_4 (hn : norm V = V) (hT : Fg 24 [(0,.pointer (some ⟨tb,0,none⟩)),(1,.pointer (some ⟨mb,0,none⟩)),(2,.pointer (some ⟨sb,0,none⟩)),(3,.pointer (some ⟨cb,0,none⟩)),(4,.pointer (some ⟨hb,0,none⟩)),(6,.int .i64 (k : Int))] T) (K : ∀ T',Fg 24 [(0,.pointer (some ⟨tb,0,none⟩)),(1,.pointer (some ⟨mb,0,none⟩)),(2,.pointer (some ⟨sb,0,none⟩)),(3,.pointer (some ⟨cb,0,none⟩)),(4,.pointer (some ⟨hb,0,none⟩)),(6,.int .i64 (k : Int))] T' → Will Try.prog main Z Stop (G (Frame.enter Try.prog 49 #[.pointer (some ⟨cb,0,none⟩),.pointer (some ⟨tb,0,none⟩),.pointer (some ⟨mb,0,none⟩)] .normal) ((base 48).at ⟨T',[]⟩ (.inRegion wo4 [1] :: kt) :: cs0)) V) :
   Will Try.prog main Z Stop (G ((base 48).at ⟨T,[]⟩ (.code w4 :: kt)) cs0) V:=by
 have e : w4 = .region 4 wo4 false:=by kernel_rfl
 rw [e]
 have hr : List.range wo4.size = [0,1]:=by kernel_rfl
 refine mu_region mu_will ?_
 rw [hr]
 obtain ⟨hs,h0,h1,h2,h3,h4,h6,-⟩:=hT
 refine opv (K:=fun g=>Will Try.prog main Z Stop g V) (L:=Lone) (muv_will hn) rfl (i:=0) (d:=17) (op:=.move (.tmp 0)) (v:=.pointer (some ⟨tb,0,none⟩)) (by kernel_rfl) (by kernel_rfl) (fun o ho τ=>?_) ?_
 · clear hs
   simp only [execOp,ho]
   go_simp
 have hT : Fg 24 [(0,.pointer (some ⟨tb,0,none⟩)),(1,.pointer (some ⟨mb,0,none⟩)),(2,.pointer (some ⟨sb,0,none⟩)),(3,.pointer (some ⟨cb,0,none⟩)),(4,.pointer (some ⟨hb,0,none⟩)),(6,.int .i64 (k : Int))] (T.setIfInBounds 17 (.pointer (some ⟨tb,0,none⟩))):=by
   refine ⟨by simp [hs],?_,?_,?_,?_,?_,?_,trivial⟩ <;> (rw [Array.getElem?_setIfInBounds_ne (by decide)]; assumption)
 have m17 : (T.setIfInBounds 17 (.pointer (some ⟨tb,0,none⟩)))[17]? = some (.pointer (some ⟨tb,0,none⟩)):=by rw [Array.getElem?_setIfInBounds_self_of_lt (by rw [hs]; decide)]
 show Will Try.prog main Z Stop (G ((base 48).at ⟨T.setIfInBounds 17 (.pointer (some ⟨tb,0,none⟩)),[]⟩ (.inRegion wo4 [1] :: kt)) cs0) V
 generalize T.setIfInBounds 17 (.pointer (some ⟨tb,0,none⟩)) = X0 at *
 clear hs h0 h1 h2 h3 h4 h6
 have hT2:=hT
 obtain ⟨hs,h0,h1,h2,h3,h4,h6,-⟩:=hT
 have hd0 : (wo4[1]?).map (·.dst) = some (some 18):=by kernel_rfl
 refine opc (K:=fun g=>Will Try.prog main Z Stop g V) mu_will rfl (i:=1) (d:=some 18) (f:=49) (args:=#[.tmp 3,.tmp 17,.tmp 1]) (ats:=#[102,50,104]) (by kernel_rfl) Try.func49 (by kernel_rfl) rfl fun hd=>?_
 have ea : (#[.tmp 3,.tmp 17,.tmp 1] : Array Operand).map (Act.eval ⟨X0,[]⟩) = #[Value.pointer (some ⟨cb,0,none⟩),Value.pointer (some ⟨tb,0,none⟩),Value.pointer (some ⟨mb,0,none⟩)]:=by simp [Act.eval,h3,m17,h1]
 rw [ea]
 exact K X0 hT2
theorem w48_4o {v : Value} (hT : Fg 24 [(0,.pointer (some ⟨tb,0,none⟩)),(1,.pointer (some ⟨mb,0,none⟩)),(2,.pointer (some ⟨sb,0,none⟩)),(3,.pointer (some ⟨cb,0,none⟩)),(4,.pointer (some ⟨hb,0,none⟩)),(6,.int .i64 (k : Int))] T) (K : ∀ T',Fg 24 [(0,.pointer (some ⟨tb,0,none⟩)),(1,.pointer (some ⟨mb,0,none⟩)),(2,.pointer (some ⟨sb,0,none⟩)),(3,.pointer (some ⟨cb,0,none⟩)),(4,.pointer (some ⟨hb,0,none⟩)),(6,.int .i64 (k : Int))] T' → Will Try.prog main Z Stop (G ((base 48).at ⟨T',[]⟩ kt) cs0) V) :
   Will Try.prog main Z Stop (G ((base 48).at (Act.put ⟨T,[]⟩ ((wo4[1]?).bind (·.dst)) v) (.inRegion wo4 [] :: kt)) cs0) V:=by
 have hd : (wo4[1]?).map (·.dst) = some (some 18):=by kernel_rfl
 have hd2 : (wo4[1]?).bind (·.dst) = some 18:=by
   rcases ho : wo4[1]? with _ | o
   · rw [ho] at hd; cases hd
   · rw [ho] at hd; simpa using hd
 rw [hd2]
 refine mu_region_end mu_will (K (T.setIfInBounds 18 v) ?_)
 obtain ⟨hs,h0,h1,h2,h3,h4,h6,-⟩:=hT
 refine ⟨by simpa using hs,?_,?_,?_,?_,?_,?_,trivial⟩ <;> (rw [Array.getElem?_setIfInBounds_ne (by decide)]; assumption)
theorem w48_7 (hn : norm V = V) (hT : Fg 24 [(0,.pointer (some ⟨tb,0,none⟩)),(1,.pointer (some ⟨mb,0,none⟩)),(2,.pointer (some ⟨sb,0,none⟩)),(3,.pointer (some ⟨cb,0,none⟩)),(4,.pointer (some ⟨hb,0,none⟩))] T) (K : ∀ T',Fg 24 [(0,.pointer (some ⟨tb,0,none⟩)),(1,.pointer (some ⟨mb,0,none⟩)),(2,.pointer (some ⟨sb,0,none⟩)),(3,.pointer (some ⟨cb,0,none⟩)),(4,.pointer (some ⟨hb,0,none⟩))] T' → Will Try.prog main Z Stop (G (Frame.enter Try.prog 46 #[.pointer (some ⟨mb,0,none⟩),.pointer (some ⟨tb,0,none⟩)] .normal) ((base 48).at ⟨T',[]⟩ (.inRegion wo7 [1] :: kt) :: cs0)) V) :
   Will Try.prog main Z Stop (G ((base 48).at ⟨T,[]⟩ (.code w7 :: kt)) cs0) V:=by
 have e : w7 = .region 7 wo7 false:=by kernel_rfl
 rw [e]
 have hr : List.range wo7.size = [0,1]:=by kernel_rfl
 refine mu_region mu_will ?_
 rw [hr]
 obtain ⟨hs,h0,h1,h2,h3,h4,-⟩:=hT
 refine opv (K:=fun g=>Will Try.prog main Z Stop g V) (L:=Lone) (muv_will hn) rfl (i:=0) (d:=22) (op:=.move (.tmp 0)) (v:=.pointer (some ⟨tb,0,none⟩)) (by kernel_rfl) (by kernel_rfl) (fun o ho τ=>?_) ?_
 · clear hs
   simp only [execOp,ho]
   go_simp
 have hT : Fg 24 [(0,.pointer (some ⟨tb,0,none⟩)),(1,.pointer (some ⟨mb,0,none⟩)),(2,.pointer (some ⟨sb,0,none⟩)),(3,.pointer (some ⟨cb,0,none⟩)),(4,.pointer (some ⟨hb,0,none⟩))] (T.setIfInBounds 22 (.pointer (some ⟨tb,0,none⟩))):=by
   refine ⟨by simp [hs],?_,?_,?_,?_,?_,trivial⟩ <;> (rw [Array.getElem?_setIfInBounds_ne (by decide)]; assumption)
 have m22 : (T.setIfInBounds 22 (.pointer (some ⟨tb,0,none⟩)))[22]? = some (.pointer (some ⟨tb,0,none⟩)):=by rw [Array.getElem?_setIfInBounds_self_of_lt (by rw [hs]; decide)]
 show Will Try.prog main Z Stop (G ((base 48).at ⟨T.setIfInBounds 22 (.pointer (some ⟨tb,0,none⟩)),[]⟩ (.inRegion wo7 [1] :: kt)) cs0) V
 generalize T.setIfInBounds 22 (.pointer (some ⟨tb,0,none⟩)) = X0 at *
 clear hs h0 h1 h2 h3 h4
 have hT2:=hT
 obtain ⟨hs,h0,h1,h2,h3,h4,-⟩:=hT
 have hd0 : (wo7[1]?).map (·.dst) = some (some 23):=by kernel_rfl
 refine opc (K:=fun g=>Will Try.prog main Z Stop g V) mu_will rfl (i:=1) (d:=some 23) (f:=46) (args:=#[.tmp 1,.tmp 22]) (ats:=#[95,50]) (by kernel_rfl) Try.func46 (by kernel_rfl) rfl fun hd=>?_
 have ea : (#[.tmp 1,.tmp 22] : Array Operand).map (Act.eval ⟨X0,[]⟩) = #[Value.pointer (some ⟨mb,0,none⟩),Value.pointer (some ⟨tb,0,none⟩)]:=by simp [Act.eval,h1,m22]
 rw [ea]
 exact K X0 hT2
theorem w48_7o {v : Value} (hT : Fg 24 [(0,.pointer (some ⟨tb,0,none⟩)),(1,.pointer (some ⟨mb,0,none⟩)),(2,.pointer (some ⟨sb,0,none⟩)),(3,.pointer (some ⟨cb,0,none⟩)),(4,.pointer (some ⟨hb,0,none⟩))] T) (K : ∀ T',Fg 24 [(0,.pointer (some ⟨tb,0,none⟩)),(1,.pointer (some ⟨mb,0,none⟩)),(2,.pointer (some ⟨sb,0,none⟩)),(3,.pointer (some ⟨cb,0,none⟩)),(4,.pointer (some ⟨hb,0,none⟩))] T' → Will Try.prog main Z Stop (G ((base 48).at ⟨T',[]⟩ kt) cs0) V) :
   Will Try.prog main Z Stop (G ((base 48).at (Act.put ⟨T,[]⟩ ((wo7[1]?).bind (·.dst)) v) (.inRegion wo7 [] :: kt)) cs0) V:=by
 have hd : (wo7[1]?).map (·.dst) = some (some 23):=by kernel_rfl
 have hd2 : (wo7[1]?).bind (·.dst) = some 23:=by
   rcases ho : wo7[1]? with _ | o
   · rw [ho] at hd; cases hd
   · rw [ho] at hd; simpa using hd
 rw [hd2]
 refine mu_region_end mu_will (K (T.setIfInBounds 23 v) ?_)
 obtain ⟨hs,h0,h1,h2,h3,h4,-⟩:=hT
 refine ⟨by simpa using hs,?_,?_,?_,?_,?_,trivial⟩ <;> (rw [Array.getElem?_setIfInBounds_ne (by decide)]; assumption)
theorem w48_1 (hn : norm V = V) (hT : Fg 24 [(0,.pointer (some ⟨tb,0,none⟩)),(1,.pointer (some ⟨mb,0,none⟩)),(2,.pointer (some ⟨sb,0,none⟩)),(3,.pointer (some ⟨cb,0,none⟩)),(4,.pointer (some ⟨hb,0,none⟩))] T)
   (K : ∀ T',Fg 24 [(0,.pointer (some ⟨tb,0,none⟩)),(1,.pointer (some ⟨mb,0,none⟩)),(2,.pointer (some ⟨sb,0,none⟩)),(3,.pointer (some ⟨cb,0,none⟩)),(4,.pointer (some ⟨hb,0,none⟩)),(6,.int .i64 0)] T' → Will Try.prog main Z Stop (G ((base 48).at ⟨T',[]⟩ kt) cs0) V) :
   Will Try.prog main Z Stop (G ((base 48).at ⟨T,[]⟩ (.code w1 :: kt)) cs0) V:=by
 refine wreg_go ⟨_,Try.func48⟩ (by kernel_rfl) K fun τ=>?_
 clear K
 obtain ⟨hs,h0,h1,h2,h3,h4,-⟩:=hT
 obtain ⟨f,hf,hT⟩:=array24f T hs
 rw [hT]
 simp only [hf _ _ h0,hf _ _ h1,hf _ _ h2,hf _ _ h3,hf _ _ h4]
 clear hf hs h0 h1 h2 h3 h4
 subst hT
 simp only [w1,wX1,wB,nva,nvb,Try.f48,Option.getD_some]
 go_wp2_with fail
 exact ⟨hn,⟨by simp,rfl,rfl,rfl,rfl,rfl,rfl,trivial⟩⟩
theorem w48_2 (hn : norm V = V) (es : V.heap[sb]? = some (.cells #[.bool so] 4 (0,0))) (hk : k < 5) (hT : Fg 24 [(0,.pointer (some ⟨tb,0,none⟩)),(1,.pointer (some ⟨mb,0,none⟩)),(2,.pointer (some ⟨sb,0,none⟩)),(3,.pointer (some ⟨cb,0,none⟩)),(4,.pointer (some ⟨hb,0,none⟩)),(6,.int .i64 (k : Int))] T)
   (K : ∀ T',Fg 24 [(0,.pointer (some ⟨tb,0,none⟩)),(1,.pointer (some ⟨mb,0,none⟩)),(2,.pointer (some ⟨sb,0,none⟩)),(3,.pointer (some ⟨cb,0,none⟩)),(4,.pointer (some ⟨hb,0,none⟩)),(6,.int .i64 (k : Int))] T' → T'[14]? = some (.bool (!so)) → Will Try.prog main Z Stop (G ((base 48).at ⟨T',[]⟩ kt) cs0) V) :
   Will Try.prog main Z Stop (G ((base 48).at ⟨T,[]⟩ (.code w2 :: kt)) cs0) V:=by
 refine wreg_gb ⟨_,Try.func48⟩ (by kernel_rfl) K fun τ=>?_
 clear K
 have c0 : (re V τ 0).cell? ⟨sb,0,none⟩ = some (.bool so):=cell_of es (by simp)
 clear es
 have q5 : ((k : Int) < 5):=by omega
 obtain ⟨hs,h0,h1,h2,h3,h4,h6,-⟩:=hT
 obtain ⟨f,hf,hT⟩:=array24f T hs
 rw [hT]
 simp only [hf _ _ h0,hf _ _ h1,hf _ _ h2,hf _ _ h3,hf _ _ h4,hf _ _ h6]
 clear hf hs h0 h1 h2 h3 h4 h6
 subst hT
 simp only [w2,wL,wX1,wB,nva,nvb,nvk,nvl,Try.f48,Option.getD_some]
 cases so <;> go_wp2_with fail
 all_goals (first | exact ⟨hn,⟨by simp,rfl,rfl,rfl,rfl,rfl,rfl,trivial⟩⟩ | exact ⟨hn,⟨by simp,rfl,rfl,rfl,rfl,rfl,rfl,trivial⟩,rfl⟩ | (exfalso; simp at hx; omega) | (exfalso; simp at hx hy; omega) | (refine ⟨hn,⟨by simp,rfl,rfl,rfl,rfl,rfl,rfl,trivial⟩,?_⟩; simp at hx ⊢; omega) | (refine ⟨hn,⟨by simp,rfl,rfl,rfl,rfl,rfl,rfl,trivial⟩,?_⟩; simp at hx hy ⊢; omega))
theorem w48_3 (hn : norm V = V) (hk : k < 5) (hT : Fg 24 [(0,.pointer (some ⟨tb,0,none⟩)),(1,.pointer (some ⟨mb,0,none⟩)),(2,.pointer (some ⟨sb,0,none⟩)),(3,.pointer (some ⟨cb,0,none⟩)),(4,.pointer (some ⟨hb,0,none⟩)),(6,.int .i64 (k : Int))] T)
   (K : ∀ T',Fg 24 [(0,.pointer (some ⟨tb,0,none⟩)),(1,.pointer (some ⟨mb,0,none⟩)),(2,.pointer (some ⟨sb,0,none⟩)),(3,.pointer (some ⟨cb,0,none⟩)),(4,.pointer (some ⟨hb,0,none⟩)),(6,.int .i64 ((k + 1 : Nat) : Int))] T' → Will Try.prog main Z Stop (G ((base 48).at ⟨T',[]⟩ kt) cs0) V) :
   Will Try.prog main Z Stop (G ((base 48).at ⟨T,[]⟩ (.code w3 :: kt)) cs0) V:=by
 refine wreg_go ⟨_,Try.func48⟩ (by kernel_rfl) K fun τ=>?_
 clear K
 have w1 : IntKind.i64.wrap ((k : Int) + 1) = ((k + 1 : Nat) : Int):=by rw [IntKind.wrap_i64]; omega
 obtain ⟨hs,h0,h1,h2,h3,h4,h6,-⟩:=hT
 obtain ⟨f,hf,hT⟩:=array24f T hs
 rw [hT]
 simp only [hf _ _ h0,hf _ _ h1,hf _ _ h2,hf _ _ h3,hf _ _ h4,hf _ _ h6]
 clear hf hs h0 h1 h2 h3 h4 h6
 subst hT
 simp only [w3,wL,wX1,wB,nva,nvb,nvk,nvl,Try.f48,Option.getD_some]
 go_wp2_with fail
 exact ⟨hn,⟨by simp,rfl,rfl,rfl,rfl,rfl,rfl,trivial⟩⟩
theorem w48_5 (hn : norm V = V) (es : V.heap[sb]? = some (.cells #[.bool so] 4 (0,0))) (hT : Fg 24 [(0,.pointer (some ⟨tb,0,none⟩)),(1,.pointer (some ⟨mb,0,none⟩)),(2,.pointer (some ⟨sb,0,none⟩)),(3,.pointer (some ⟨cb,0,none⟩)),(4,.pointer (some ⟨hb,0,none⟩)),(6,.int .i64 (k : Int))] T)
   (K : ∀ T',Fg 24 [(0,.pointer (some ⟨tb,0,none⟩)),(1,.pointer (some ⟨mb,0,none⟩)),(2,.pointer (some ⟨sb,0,none⟩)),(3,.pointer (some ⟨cb,0,none⟩)),(4,.pointer (some ⟨hb,0,none⟩))] T' → T'[19]? = some (.bool so) → Will Try.prog main Z Stop (G ((base 48).at ⟨T',[]⟩ kt) cs0) V) :
   Will Try.prog main Z Stop (G ((base 48).at ⟨T,[]⟩ (.code w5 :: kt)) cs0) V:=by
 refine wreg_gb ⟨_,Try.func48⟩ (by kernel_rfl) K fun τ=>?_
 clear K
 have c0 : (re V τ 0).cell? ⟨sb,0,none⟩ = some (.bool so):=cell_of es (by simp)
 clear es
 obtain ⟨hs,h0,h1,h2,h3,h4,h6,-⟩:=hT
 obtain ⟨f,hf,hT⟩:=array24f T hs
 rw [hT]
 simp only [hf _ _ h0,hf _ _ h1,hf _ _ h2,hf _ _ h3,hf _ _ h4,hf _ _ h6]
 clear hf hs h0 h1 h2 h3 h4 h6
 subst hT
 simp only [w5,wX5,wX1,wB,nva,nvb,Try.f48,Option.getD_some]
 go_wp2_with fail
 all_goals (first | exact ⟨hn,⟨by simp,rfl,rfl,rfl,rfl,rfl,trivial⟩⟩ | exact ⟨hn,⟨by simp,rfl,rfl,rfl,rfl,rfl,trivial⟩,rfl⟩ | (exfalso; simp at hx; omega) | (exfalso; simp at hx hy; omega) | (refine ⟨hn,⟨by simp,rfl,rfl,rfl,rfl,rfl,trivial⟩,?_⟩; simp at hx ⊢; omega) | (refine ⟨hn,⟨by simp,rfl,rfl,rfl,rfl,rfl,trivial⟩,?_⟩; simp at hx hy ⊢; omega))
theorem w48_6 (hn : norm V = V) (hthr : thr < 1000) (eh : V.heap[hb]? = some (.cells #[.int .i64 (thr : Int)] 3 (0,0))) (hT : Fg 24 [(0,.pointer (some ⟨tb,0,none⟩)),(1,.pointer (some ⟨mb,0,none⟩)),(2,.pointer (some ⟨sb,0,none⟩)),(3,.pointer (some ⟨cb,0,none⟩)),(4,.pointer (some ⟨hb,0,none⟩))] T)
   (K : ∀ T',Fg 24 [(0,.pointer (some ⟨tb,0,none⟩)),(1,.pointer (some ⟨mb,0,none⟩)),(2,.pointer (some ⟨sb,0,none⟩)),(3,.pointer (some ⟨cb,0,none⟩)),(4,.pointer (some ⟨hb,0,none⟩))] T' → Will Try.prog main Z Stop (G ((base 48).at ⟨T',[]⟩ kt) cs0) (V.setCell ⟨hb,0,none⟩ (.int .i64 ((thr + 1 : Nat) : Int)))) :
   Will Try.prog main Z Stop (G ((base 48).at ⟨T,[]⟩ (.code w6 :: kt)) cs0) V:=by
 refine wreg_go ⟨_,Try.func48⟩ (by kernel_rfl) K fun τ=>?_
 clear K
 have c0 : (re V τ 0).cell? ⟨hb,0,none⟩ = some (.int .i64 (thr : Int)):=cell_of eh (by simp)
 have z0 : (re V τ 0).frozen? ⟨hb,0,none⟩ = false:=by simp [World.frozen?,re,eh]
 have w1 : IntKind.i64.wrap ((thr : Int) + 1) = ((thr + 1 : Nat) : Int):=by rw [IntKind.wrap_i64]; omega
 clear eh
 obtain ⟨hs,h0,h1,h2,h3,h4,-⟩:=hT
 obtain ⟨f,hf,hT⟩:=array24f T hs
 rw [hT]
 simp only [hf _ _ h0,hf _ _ h1,hf _ _ h2,hf _ _ h3,hf _ _ h4]
 clear hf hs h0 h1 h2 h3 h4
 subst hT
 simp only [w6,wX5,wX1,wB,nva,nvb,nvc,Try.f48,Option.getD_some]
 go_wp2_with fail
 exact ⟨norm_set hn _ _,⟨by simp,rfl,rfl,rfl,rfl,rfl,trivial⟩⟩
end
end Go.Proofs.Ytibcdikfbhmheaa

namespace Go.Proofs.Ytibcdikfbhmheaa
open Go Go.Conc Go.Proofs
open Go.ConcN (sumTo upd sumTo_upd upd_ne upd_same)
set_option linter.unusedVariables false
theorem array22f (T : Array Value) (h : T.size = 22) : ∃ f : Nat → Value,(∀ i v,T[i]? = some v → f i = v) ∧ T = #[f 0,f 1,f 2,f 3,f 4,f 5,f 6,f 7,f 8,f 9,f 10,f 11,f 12,f 13,f 14,f 15,f 16,f 17,f 18,f 19,f 20,f 21]:=arrg_QK06 T h
theorem wX1_eq : wX1 = .seq (.seq w1 (.block 0 (.loop wL))) wX5:=by kernel_rfl
theorem wX5_eq : wX5 = .seq (.seq w5 (.cond (.tmp 19) w6 .skip)) w7:=by kernel_rfl
theorem wB2_eq : Try.f48.body = some (.seq w0 wX1):=by kernel_rfl
noncomputable def wF0 (T : Array Value) : Frame:=(base 48).at ⟨T,[]⟩ [.inRegion wo0 [1],.code wX1]
noncomputable def wF4 (T : Array Value) : Frame:=(base 48).at ⟨T,[]⟩ [.inRegion wo4 [1],.inBlock 1,.code w3,.inLoop wL,.inBlock 0,.code wX5]
noncomputable def wF7 (T : Array Value) : Frame:=(base 48).at ⟨T,[]⟩ [.inRegion wo7 [1]]
section
variable {main : Bool} {Z : Cuts} {Stop : Goroutine → World → Prop} {V : World} {tb mb sb cb hb lb k y thr : Nat} {u : Int} {so : Bool} {T : Array Value} {kt : List Item} {cs0 : List Frame} {b₀ : Frame} {a₀ : Act} {ops₀ : Array Oper} {i₀ : Nat} {rest₀ : List Nat} {k₀ : List Item}
theorem w48_in (hn : norm V = V) (K : ∀ T,Fg 24 [(0,.pointer (some ⟨tb,0,none⟩)),(1,.pointer (some ⟨mb,0,none⟩)),(2,.pointer (some ⟨sb,0,none⟩)),(3,.pointer (some ⟨cb,0,none⟩)),(4,.pointer (some ⟨hb,0,none⟩))] T → Will Try.prog main Z Stop (G (Frame.enter Try.prog 45 #[.pointer (some ⟨mb,0,none⟩),.pointer (some ⟨tb,0,none⟩)] .normal) (wF0 T :: cs0)) V) :
   Will Try.prog main Z Stop (G (Frame.enter Try.prog 48 #[.pointer (some ⟨tb,0,none⟩),.pointer (some ⟨mb,0,none⟩),.pointer (some ⟨sb,0,none⟩),.pointer (some ⟨cb,0,none⟩),.pointer (some ⟨hb,0,none⟩)] .normal) cs0) V:=by
 rw [enter_at (P:=Try.prog) _ Try.func48 wB2_eq]
 have hnt : Try.f48.ntmps = 24:=rfl
 rw [hnt]
 refine mu_seq mu_will ?_
 exact w48_0 hn ⟨by simp,by simp,by simp,by simp,by simp,by simp,trivial⟩ K
theorem w48_head (hn : norm V = V) (hk : k < 5) (es : V.heap[sb]? = some (.cells #[.bool so] 4 (0,0))) (hthr : thr < 1000) (eh : V.heap[hb]? = some (.cells #[.int .i64 (thr : Int)] 3 (0,0))) (hT : Fg 24 [(0,.pointer (some ⟨tb,0,none⟩)),(1,.pointer (some ⟨mb,0,none⟩)),(2,.pointer (some ⟨sb,0,none⟩)),(3,.pointer (some ⟨cb,0,none⟩)),(4,.pointer (some ⟨hb,0,none⟩)),(6,.int .i64 (k : Int))] T)
   (K0 : so = false → ∀ T',Fg 24 [(0,.pointer (some ⟨tb,0,none⟩)),(1,.pointer (some ⟨mb,0,none⟩)),(2,.pointer (some ⟨sb,0,none⟩)),(3,.pointer (some ⟨cb,0,none⟩)),(4,.pointer (some ⟨hb,0,none⟩)),(6,.int .i64 (k : Int))] T' → Will Try.prog main Z Stop (G (Frame.enter Try.prog 49 #[.pointer (some ⟨cb,0,none⟩),.pointer (some ⟨tb,0,none⟩),.pointer (some ⟨mb,0,none⟩)] .normal) (wF4 T' :: cs0)) V)
   (K1 : so = true → ∀ T',Fg 24 [(0,.pointer (some ⟨tb,0,none⟩)),(1,.pointer (some ⟨mb,0,none⟩)),(2,.pointer (some ⟨sb,0,none⟩)),(3,.pointer (some ⟨cb,0,none⟩)),(4,.pointer (some ⟨hb,0,none⟩))] T' → Will Try.prog main Z Stop (G (Frame.enter Try.prog 46 #[.pointer (some ⟨mb,0,none⟩),.pointer (some ⟨tb,0,none⟩)] .normal) (wF7 T' :: cs0)) (V.setCell ⟨hb,0,none⟩ (.int .i64 ((thr + 1 : Nat) : Int)))) :
   Will Try.prog main Z Stop (G ((base 48).at ⟨T,[]⟩ [.code wL,.inLoop wL,.inBlock 0,.code wX5]) cs0) V:=by
 refine (fun (h : ∀ X,X = wL → Will Try.prog main Z Stop (G ((base 48).at ⟨T,[]⟩ (.code X :: [.inLoop wL,.inBlock 0,.code wX5])) cs0) V)=>h _ rfl) ?_
 intro X hX
 rw [wL_eq] at hX
 subst hX
 refine mu_seq mu_will (mu_seq mu_will (w48_2 hn es hk hT fun T1 hT1 h14=>?_))
 cases so with
 | false =>
   refine mu_cond mu_will true (evt h14) (mu_skip mu_will (mu_seq mu_will (mu_block mu_will ?_)))
   exact w48_4 hn hT1 (K0 rfl)
 | true =>
   refine mu_cond mu_will false (evt h14) (mu_exit mu_will rfl ?_)
   refine (fun (h : ∀ X,X = wX5 → Will Try.prog main Z Stop (G ((base 48).at ⟨T1,[]⟩ (.code X :: [])) cs0) V)=>h _ rfl) ?_
   intro X hX
   rw [wX5_eq] at hX
   subst hX
   refine mu_seq mu_will (mu_seq mu_will (w48_5 hn es hT1 fun T2 hT2 h19=>?_))
   refine mu_cond mu_will true (evt h19) ?_
   refine w48_6 hn hthr eh hT2 fun T3 hT3=>?_
   exact w48_7 (norm_set hn _ _) hT3 (K1 rfl)
theorem w48_lock (hn : norm V = V) {v : Value} (es : V.heap[sb]? = some (.cells #[.bool so] 4 (0,0))) (hthr : thr < 1000) (eh : V.heap[hb]? = some (.cells #[.int .i64 (thr : Int)] 3 (0,0))) (hT : Fg 24 [(0,.pointer (some ⟨tb,0,none⟩)),(1,.pointer (some ⟨mb,0,none⟩)),(2,.pointer (some ⟨sb,0,none⟩)),(3,.pointer (some ⟨cb,0,none⟩)),(4,.pointer (some ⟨hb,0,none⟩))] T)
   (K0 : so = false → ∀ T',Fg 24 [(0,.pointer (some ⟨tb,0,none⟩)),(1,.pointer (some ⟨mb,0,none⟩)),(2,.pointer (some ⟨sb,0,none⟩)),(3,.pointer (some ⟨cb,0,none⟩)),(4,.pointer (some ⟨hb,0,none⟩)),(6,.int .i64 ((0 : Nat) : Int))] T' → Will Try.prog main Z Stop (G (Frame.enter Try.prog 49 #[.pointer (some ⟨cb,0,none⟩),.pointer (some ⟨tb,0,none⟩),.pointer (some ⟨mb,0,none⟩)] .normal) (wF4 T' :: cs0)) V)
   (K1 : so = true → ∀ T',Fg 24 [(0,.pointer (some ⟨tb,0,none⟩)),(1,.pointer (some ⟨mb,0,none⟩)),(2,.pointer (some ⟨sb,0,none⟩)),(3,.pointer (some ⟨cb,0,none⟩)),(4,.pointer (some ⟨hb,0,none⟩))] T' → Will Try.prog main Z Stop (G (Frame.enter Try.prog 46 #[.pointer (some ⟨mb,0,none⟩),.pointer (some ⟨tb,0,none⟩)] .normal) (wF7 T' :: cs0)) (V.setCell ⟨hb,0,none⟩ (.int .i64 ((thr + 1 : Nat) : Int)))) :
   Will Try.prog main Z Stop (G ((base 48).at (Act.put ⟨T,[]⟩ ((wo0[1]?).bind (·.dst)) v) [.inRegion wo0 [],.code wX1]) cs0) V:=by
 refine w48_0o hT fun T1 hT1=>?_
 refine (fun (h : ∀ X,X = wX1 → Will Try.prog main Z Stop (G ((base 48).at ⟨T1,[]⟩ (.code X :: [])) cs0) V)=>h _ rfl) ?_
 intro X hX
 rw [wX1_eq] at hX
 subst hX
 refine mu_seq mu_will (mu_seq mu_will (w48_1 hn hT1 fun T2 hT2=>?_))
 refine mu_block mu_will (mu_loop mu_will ?_)
 exact w48_head (k:=0) hn (by decide) es hthr eh hT2 K0 K1
theorem w48_back (hn : norm V = V) {v : Value} (hk : k + 1 < 5) (es : V.heap[sb]? = some (.cells #[.bool true] 4 (0,0))) (hthr : thr < 1000) (eh : V.heap[hb]? = some (.cells #[.int .i64 (thr : Int)] 3 (0,0))) (hT : Fg 24 [(0,.pointer (some ⟨tb,0,none⟩)),(1,.pointer (some ⟨mb,0,none⟩)),(2,.pointer (some ⟨sb,0,none⟩)),(3,.pointer (some ⟨cb,0,none⟩)),(4,.pointer (some ⟨hb,0,none⟩)),(6,.int .i64 (k : Int))] T)
   (K1 : ∀ T',Fg 24 [(0,.pointer (some ⟨tb,0,none⟩)),(1,.pointer (some ⟨mb,0,none⟩)),(2,.pointer (some ⟨sb,0,none⟩)),(3,.pointer (some ⟨cb,0,none⟩)),(4,.pointer (some ⟨hb,0,none⟩))] T' → Will Try.prog main Z Stop (G (Frame.enter Try.prog 46 #[.pointer (some ⟨mb,0,none⟩),.pointer (some ⟨tb,0,none⟩)] .normal) (wF7 T' :: cs0)) (V.setCell ⟨hb,0,none⟩ (.int .i64 ((thr + 1 : Nat) : Int)))) :
   Will Try.prog main Z Stop (G ((base 48).at (Act.put ⟨T,[]⟩ ((wo4[1]?).bind (·.dst)) v) [.inRegion wo4 [],.inBlock 1,.code w3,.inLoop wL,.inBlock 0,.code wX5]) cs0) V:=by
 refine w48_4o hT fun T1 hT1=>mu_inBlock mu_will ?_
 refine w48_3 hn (by omega) hT1 fun T2 hT2=>mu_inLoop mu_will ?_
 exact w48_head (k:=k + 1) hn hk es hthr eh hT2 (fun e=>by cases e) fun _=>K1
theorem w48_over {v : Value} (hT : Fg 24 [(0,.pointer (some ⟨tb,0,none⟩)),(1,.pointer (some ⟨mb,0,none⟩)),(2,.pointer (some ⟨sb,0,none⟩)),(3,.pointer (some ⟨cb,0,none⟩)),(4,.pointer (some ⟨hb,0,none⟩))] T) (K : Will Try.prog main Z Stop (G (b₀.at (a₀.put ((ops₀[i₀]?).bind (·.dst)) (.tuple #[])) (.inRegion ops₀ rest₀ :: k₀)) cs0) V) :
   Will Try.prog main Z Stop (G ((base 48).at (Act.put ⟨T,[]⟩ ((wo7[1]?).bind (·.dst)) v) [.inRegion wo7 []]) (b₀.at a₀ (.inRegion ops₀ (i₀ :: rest₀) :: k₀) :: cs0)) V:=by
 refine w48_7o hT fun T1 hT1=>mu_end mu_will ?_
 exact mu_leave0 mu_will rfl rfl Try.func48 rfl K
end
noncomputable def tlB : Code:=Try.f50.body.getD .skip
noncomputable def tl0 : Code:=nva (nva tlB)
noncomputable def tlL : Code:=nvl (nvk (nvb (nva tlB)))
noncomputable def tlX4 : Code:=nvb tlB
noncomputable def tl4 : Code:=nva tlX4
noncomputable def tlX5 : Code:=nvb tlX4
noncomputable def tl5 : Code:=nva tlX5
noncomputable def tlX6 : Code:=nvb tlX5
noncomputable def tl6 : Code:=nva tlX6
noncomputable def tl7 : Code:=nvb tlX6
noncomputable def tl1 : Code:=nva (nva tlL)
noncomputable def tl3 : Code:=nvk (nva (nvb tlL))
noncomputable def tl2 : Code:=nvb (nvb tlL)
noncomputable def tlo3 : Array Oper:=rops tl3
noncomputable def tlo4 : Array Oper:=rops tl4
noncomputable def tlo6 : Array Oper:=rops tl6
noncomputable def tlo7 : Array Oper:=rops tl7
theorem tlB_eq : Try.f50.body = some (.seq (.seq tl0 (.block 0 (.loop tlL))) tlX4):=by kernel_rfl
theorem tlL_eq : tlL = .seq (.seq tl1 (.cond (.tmp 11) .skip (.exit 0))) (.seq (.block 1 tl3) tl2):=by kernel_rfl
theorem tlX4_eq : tlX4 = .seq tl4 tlX5:=by kernel_rfl
theorem tlX5_eq : tlX5 = .seq tl5 tlX6:=by kernel_rfl
theorem tlX6_eq : tlX6 = .seq tl6 tl7:=by kernel_rfl
noncomputable def tlF3 (T : Array Value) : Frame:=(base 50).at ⟨T,[]⟩ [.inRegion tlo3 [1],.inBlock 1,.code tl2,.inLoop tlL,.inBlock 0,.code tlX4]
noncomputable def tlF4 (T : Array Value) : Frame:=(base 50).at ⟨T,[]⟩ [.inRegion tlo4 [1],.code tlX5]
noncomputable def tlF6 (T : Array Value) : Frame:=(base 50).at ⟨T,[]⟩ [.inRegion tlo6 [1],.code tl7]
noncomputable def tlF7 (T : Array Value) : Frame:=(base 50).at ⟨T,[]⟩ [.inRegion tlo7 [1]]
section
variable {main : Bool} {Z : Cuts} {Stop : Goroutine → World → Prop} {V : World} {tb mb sb cb hb lb k y thr : Nat} {u : Int} {so : Bool} {T : Array Value} {kt : List Item} {cs0 : List Frame} {b₀ : Frame} {a₀ : Act} {ops₀ : Array Oper} {i₀ : Nat} {rest₀ : List Nat} {k₀ : List Item}
theorem t50_3 (hn : norm V = V) (hT : Fg 22 [(0,.pointer (some ⟨tb,0,none⟩)),(1,.pointer (some ⟨lb,0,none⟩)),(2,.pointer (some ⟨mb,0,none⟩)),(3,.pointer (some ⟨sb,0,none⟩)),(4,.pointer (some ⟨cb,0,none⟩)),(6,.int .i64 (k : Int))] T) (K : ∀ T',Fg 22 [(0,.pointer (some ⟨tb,0,none⟩)),(1,.pointer (some ⟨lb,0,none⟩)),(2,.pointer (some ⟨mb,0,none⟩)),(3,.pointer (some ⟨sb,0,none⟩)),(4,.pointer (some ⟨cb,0,none⟩)),(6,.int .i64 (k : Int))] T' → Will Try.prog main Z Stop (G (Frame.enter Try.prog 24 #[.pointer (some ⟨tb,0,none⟩)] .normal) ((base 50).at ⟨T',[]⟩ (.inRegion tlo3 [1] :: kt) :: cs0)) V) :
   Will Try.prog main Z Stop (G ((base 50).at ⟨T,[]⟩ (.code tl3 :: kt)) cs0) V:=by
 have e : tl3 = .region 3 tlo3 false:=by kernel_rfl
 rw [e]
 have hr : List.range tlo3.size = [0,1]:=by kernel_rfl
 refine mu_region mu_will ?_
 rw [hr]
 obtain ⟨hs,h0,h1,h2,h3,h4,h6,-⟩:=hT
 refine opv (K:=fun g=>Will Try.prog main Z Stop g V) (L:=Lone) (muv_will hn) rfl (i:=0) (d:=14) (op:=.move (.tmp 0)) (v:=.pointer (some ⟨tb,0,none⟩)) (by kernel_rfl) (by kernel_rfl) (fun o ho τ=>?_) ?_
 · clear hs
   simp only [execOp,ho]
   go_simp
 have hT : Fg 22 [(0,.pointer (some ⟨tb,0,none⟩)),(1,.pointer (some ⟨lb,0,none⟩)),(2,.pointer (some ⟨mb,0,none⟩)),(3,.pointer (some ⟨sb,0,none⟩)),(4,.pointer (some ⟨cb,0,none⟩)),(6,.int .i64 (k : Int))] (T.setIfInBounds 14 (.pointer (some ⟨tb,0,none⟩))):=by
   refine ⟨by simp [hs],?_,?_,?_,?_,?_,?_,trivial⟩ <;> (rw [Array.getElem?_setIfInBounds_ne (by decide)]; assumption)
 have m14 : (T.setIfInBounds 14 (.pointer (some ⟨tb,0,none⟩)))[14]? = some (.pointer (some ⟨tb,0,none⟩)):=by rw [Array.getElem?_setIfInBounds_self_of_lt (by rw [hs]; decide)]
 show Will Try.prog main Z Stop (G ((base 50).at ⟨T.setIfInBounds 14 (.pointer (some ⟨tb,0,none⟩)),[]⟩ (.inRegion tlo3 [1] :: kt)) cs0) V
 generalize T.setIfInBounds 14 (.pointer (some ⟨tb,0,none⟩)) = X0 at *
 clear hs h0 h1 h2 h3 h4 h6
 have hT2:=hT
 obtain ⟨hs,h0,h1,h2,h3,h4,h6,-⟩:=hT
 have hd0 : (tlo3[1]?).map (·.dst) = some (some 15):=by kernel_rfl
 refine opc (K:=fun g=>Will Try.prog main Z Stop g V) mu_will rfl (i:=1) (d:=some 15) (f:=24) (args:=#[.tmp 14]) (ats:=#[50]) (by kernel_rfl) Try.func24 (by kernel_rfl) rfl fun hd=>?_
 have ea : (#[.tmp 14] : Array Operand).map (Act.eval ⟨X0,[]⟩) = #[Value.pointer (some ⟨tb,0,none⟩)]:=by simp [Act.eval,m14]
 rw [ea]
 exact K X0 hT2
theorem t50_3o {v : Value} (hT : Fg 22 [(0,.pointer (some ⟨tb,0,none⟩)),(1,.pointer (some ⟨lb,0,none⟩)),(2,.pointer (some ⟨mb,0,none⟩)),(3,.pointer (some ⟨sb,0,none⟩)),(4,.pointer (some ⟨cb,0,none⟩)),(6,.int .i64 (k : Int))] T) (K : ∀ T',Fg 22 [(0,.pointer (some ⟨tb,0,none⟩)),(1,.pointer (some ⟨lb,0,none⟩)),(2,.pointer (some ⟨mb,0,none⟩)),(3,.pointer (some ⟨sb,0,none⟩)),(4,.pointer (some ⟨cb,0,none⟩)),(6,.int .i64 (k : Int))] T' → Will Try.prog main Z Stop (G ((base 50).at ⟨T',[]⟩ kt) cs0) V) :
   Will Try.prog main Z Stop (G ((base 50).at (Act.put ⟨T,[]⟩ ((tlo3[1]?).bind (·.dst)) v) (.inRegion tlo3 [] :: kt)) cs0) V:=by
 have hd : (tlo3[1]?).map (·.dst) = some (some 15):=by kernel_rfl
 have hd2 : (tlo3[1]?).bind (·.dst) = some 15:=by
   rcases ho : tlo3[1]? with _ | o
   · rw [ho] at hd; cases hd
   · rw [ho] at hd; simpa using hd
 rw [hd2]
 refine mu_region_end mu_will (K (T.setIfInBounds 15 v) ?_)
 obtain ⟨hs,h0,h1,h2,h3,h4,h6,-⟩:=hT
 refine ⟨by simpa using hs,?_,?_,?_,?_,?_,?_,trivial⟩ <;> (rw [Array.getElem?_setIfInBounds_ne (by decide)]; assumption)
theorem t50_4 (hn : norm V = V) (hT : Fg 22 [(0,.pointer (some ⟨tb,0,none⟩)),(1,.pointer (some ⟨lb,0,none⟩)),(2,.pointer (some ⟨mb,0,none⟩)),(3,.pointer (some ⟨sb,0,none⟩)),(4,.pointer (some ⟨cb,0,none⟩))] T) (K : ∀ T',Fg 22 [(0,.pointer (some ⟨tb,0,none⟩)),(1,.pointer (some ⟨lb,0,none⟩)),(2,.pointer (some ⟨mb,0,none⟩)),(3,.pointer (some ⟨sb,0,none⟩)),(4,.pointer (some ⟨cb,0,none⟩))] T' → Will Try.prog main Z Stop (G (Frame.enter Try.prog 45 #[.pointer (some ⟨mb,0,none⟩),.pointer (some ⟨tb,0,none⟩)] .normal) ((base 50).at ⟨T',[]⟩ (.inRegion tlo4 [1] :: kt) :: cs0)) V) :
   Will Try.prog main Z Stop (G ((base 50).at ⟨T,[]⟩ (.code tl4 :: kt)) cs0) V:=by
 have e : tl4 = .region 4 tlo4 false:=by kernel_rfl
 rw [e]
 have hr : List.range tlo4.size = [0,1]:=by kernel_rfl
 refine mu_region mu_will ?_
 rw [hr]
 obtain ⟨hs,h0,h1,h2,h3,h4,-⟩:=hT
 refine opv (K:=fun g=>Will Try.prog main Z Stop g V) (L:=Lone) (muv_will hn) rfl (i:=0) (d:=16) (op:=.move (.tmp 0)) (v:=.pointer (some ⟨tb,0,none⟩)) (by kernel_rfl) (by kernel_rfl) (fun o ho τ=>?_) ?_
 · clear hs
   simp only [execOp,ho]
   go_simp
 have hT : Fg 22 [(0,.pointer (some ⟨tb,0,none⟩)),(1,.pointer (some ⟨lb,0,none⟩)),(2,.pointer (some ⟨mb,0,none⟩)),(3,.pointer (some ⟨sb,0,none⟩)),(4,.pointer (some ⟨cb,0,none⟩))] (T.setIfInBounds 16 (.pointer (some ⟨tb,0,none⟩))):=by
   refine ⟨by simp [hs],?_,?_,?_,?_,?_,trivial⟩ <;> (rw [Array.getElem?_setIfInBounds_ne (by decide)]; assumption)
 have m16 : (T.setIfInBounds 16 (.pointer (some ⟨tb,0,none⟩)))[16]? = some (.pointer (some ⟨tb,0,none⟩)):=by rw [Array.getElem?_setIfInBounds_self_of_lt (by rw [hs]; decide)]
 show Will Try.prog main Z Stop (G ((base 50).at ⟨T.setIfInBounds 16 (.pointer (some ⟨tb,0,none⟩)),[]⟩ (.inRegion tlo4 [1] :: kt)) cs0) V
 generalize T.setIfInBounds 16 (.pointer (some ⟨tb,0,none⟩)) = X0 at *
 clear hs h0 h1 h2 h3 h4
 have hT2:=hT
 obtain ⟨hs,h0,h1,h2,h3,h4,-⟩:=hT
 have hd0 : (tlo4[1]?).map (·.dst) = some (some 17):=by kernel_rfl
 refine opc (K:=fun g=>Will Try.prog main Z Stop g V) mu_will rfl (i:=1) (d:=some 17) (f:=45) (args:=#[.tmp 2,.tmp 16]) (ats:=#[95,50]) (by kernel_rfl) Try.func45 (by kernel_rfl) rfl fun hd=>?_
 have ea : (#[.tmp 2,.tmp 16] : Array Operand).map (Act.eval ⟨X0,[]⟩) = #[Value.pointer (some ⟨mb,0,none⟩),Value.pointer (some ⟨tb,0,none⟩)]:=by simp [Act.eval,h2,m16]
 rw [ea]
 exact K X0 hT2
theorem t50_4o {v : Value} (hT : Fg 22 [(0,.pointer (some ⟨tb,0,none⟩)),(1,.pointer (some ⟨lb,0,none⟩)),(2,.pointer (some ⟨mb,0,none⟩)),(3,.pointer (some ⟨sb,0,none⟩)),(4,.pointer (some ⟨cb,0,none⟩))] T) (K : ∀ T',Fg 22 [(0,.pointer (some ⟨tb,0,none⟩)),(1,.pointer (some ⟨lb,0,none⟩)),(2,.pointer (some ⟨mb,0,none⟩)),(3,.pointer (some ⟨sb,0,none⟩)),(4,.pointer (some ⟨cb,0,none⟩))] T' → Will Try.prog main Z Stop (G ((base 50).at ⟨T',[]⟩ kt) cs0) V) :
   Will Try.prog main Z Stop (G ((base 50).at (Act.put ⟨T,[]⟩ ((tlo4[1]?).bind (·.dst)) v) (.inRegion tlo4 [] :: kt)) cs0) V:=by
 have hd : (tlo4[1]?).map (·.dst) = some (some 17):=by kernel_rfl
 have hd2 : (tlo4[1]?).bind (·.dst) = some 17:=by
   rcases ho : tlo4[1]? with _ | o
   · rw [ho] at hd; cases hd
   · rw [ho] at hd; simpa using hd
 rw [hd2]
 refine mu_region_end mu_will (K (T.setIfInBounds 17 v) ?_)
 obtain ⟨hs,h0,h1,h2,h3,h4,-⟩:=hT
 refine ⟨by simpa using hs,?_,?_,?_,?_,?_,trivial⟩ <;> (rw [Array.getElem?_setIfInBounds_ne (by decide)]; assumption)
theorem t50_6 (hn : norm V = V) (hT : Fg 22 [(0,.pointer (some ⟨tb,0,none⟩)),(1,.pointer (some ⟨lb,0,none⟩)),(2,.pointer (some ⟨mb,0,none⟩)),(3,.pointer (some ⟨sb,0,none⟩)),(4,.pointer (some ⟨cb,0,none⟩))] T) (K : ∀ T',Fg 22 [(0,.pointer (some ⟨tb,0,none⟩)),(1,.pointer (some ⟨lb,0,none⟩)),(2,.pointer (some ⟨mb,0,none⟩)),(3,.pointer (some ⟨sb,0,none⟩)),(4,.pointer (some ⟨cb,0,none⟩))] T' → Will Try.prog main Z Stop (G (Frame.enter Try.prog 51 #[.pointer (some ⟨cb,0,none⟩),.pointer (some ⟨tb,0,none⟩)] .normal) ((base 50).at ⟨T',[]⟩ (.inRegion tlo6 [1] :: kt) :: cs0)) V) :
   Will Try.prog main Z Stop (G ((base 50).at ⟨T,[]⟩ (.code tl6 :: kt)) cs0) V:=by
 have e : tl6 = .region 6 tlo6 false:=by kernel_rfl
 rw [e]
 have hr : List.range tlo6.size = [0,1]:=by kernel_rfl
 refine mu_region mu_will ?_
 rw [hr]
 obtain ⟨hs,h0,h1,h2,h3,h4,-⟩:=hT
 refine opv (K:=fun g=>Will Try.prog main Z Stop g V) (L:=Lone) (muv_will hn) rfl (i:=0) (d:=18) (op:=.move (.tmp 0)) (v:=.pointer (some ⟨tb,0,none⟩)) (by kernel_rfl) (by kernel_rfl) (fun o ho τ=>?_) ?_
 · clear hs
   simp only [execOp,ho]
   go_simp
 have hT : Fg 22 [(0,.pointer (some ⟨tb,0,none⟩)),(1,.pointer (some ⟨lb,0,none⟩)),(2,.pointer (some ⟨mb,0,none⟩)),(3,.pointer (some ⟨sb,0,none⟩)),(4,.pointer (some ⟨cb,0,none⟩))] (T.setIfInBounds 18 (.pointer (some ⟨tb,0,none⟩))):=by
   refine ⟨by simp [hs],?_,?_,?_,?_,?_,trivial⟩ <;> (rw [Array.getElem?_setIfInBounds_ne (by decide)]; assumption)
 have m18 : (T.setIfInBounds 18 (.pointer (some ⟨tb,0,none⟩)))[18]? = some (.pointer (some ⟨tb,0,none⟩)):=by rw [Array.getElem?_setIfInBounds_self_of_lt (by rw [hs]; decide)]
 show Will Try.prog main Z Stop (G ((base 50).at ⟨T.setIfInBounds 18 (.pointer (some ⟨tb,0,none⟩)),[]⟩ (.inRegion tlo6 [1] :: kt)) cs0) V
 generalize T.setIfInBounds 18 (.pointer (some ⟨tb,0,none⟩)) = X0 at *
 clear hs h0 h1 h2 h3 h4
 have hT2:=hT
 obtain ⟨hs,h0,h1,h2,h3,h4,-⟩:=hT
 have hd0 : (tlo6[1]?).map (·.dst) = some (some 19):=by kernel_rfl
 refine opc (K:=fun g=>Will Try.prog main Z Stop g V) mu_will rfl (i:=1) (d:=some 19) (f:=51) (args:=#[.tmp 4,.tmp 18]) (ats:=#[102,50]) (by kernel_rfl) Try.func51 (by kernel_rfl) rfl fun hd=>?_
 have ea : (#[.tmp 4,.tmp 18] : Array Operand).map (Act.eval ⟨X0,[]⟩) = #[Value.pointer (some ⟨cb,0,none⟩),Value.pointer (some ⟨tb,0,none⟩)]:=by simp [Act.eval,h4,m18]
 rw [ea]
 exact K X0 hT2
theorem t50_6o {v : Value} (hT : Fg 22 [(0,.pointer (some ⟨tb,0,none⟩)),(1,.pointer (some ⟨lb,0,none⟩)),(2,.pointer (some ⟨mb,0,none⟩)),(3,.pointer (some ⟨sb,0,none⟩)),(4,.pointer (some ⟨cb,0,none⟩))] T) (K : ∀ T',Fg 22 [(0,.pointer (some ⟨tb,0,none⟩)),(1,.pointer (some ⟨lb,0,none⟩)),(2,.pointer (some ⟨mb,0,none⟩)),(3,.pointer (some ⟨sb,0,none⟩)),(4,.pointer (some ⟨cb,0,none⟩))] T' → Will Try.prog main Z Stop (G ((base 50).at ⟨T',[]⟩ kt) cs0) V) :
   Will Try.prog main Z Stop (G ((base 50).at (Act.put ⟨T,[]⟩ ((tlo6[1]?).bind (·.dst)) v) (.inRegion tlo6 [] :: kt)) cs0) V:=by
 have hd : (tlo6[1]?).map (·.dst) = some (some 19):=by kernel_rfl
 have hd2 : (tlo6[1]?).bind (·.dst) = some 19:=by
   rcases ho : tlo6[1]? with _ | o
   · rw [ho] at hd; cases hd
   · rw [ho] at hd; simpa using hd
 rw [hd2]
 refine mu_region_end mu_will (K (T.setIfInBounds 19 v) ?_)
 obtain ⟨hs,h0,h1,h2,h3,h4,-⟩:=hT
 refine ⟨by simpa using hs,?_,?_,?_,?_,?_,trivial⟩ <;> (rw [Array.getElem?_setIfInBounds_ne (by decide)]; assumption)
theorem t50_7 (hn : norm V = V) (hT : Fg 22 [(0,.pointer (some ⟨tb,0,none⟩)),(1,.pointer (some ⟨lb,0,none⟩)),(2,.pointer (some ⟨mb,0,none⟩)),(3,.pointer (some ⟨sb,0,none⟩)),(4,.pointer (some ⟨cb,0,none⟩))] T) (K : ∀ T',Fg 22 [(0,.pointer (some ⟨tb,0,none⟩)),(1,.pointer (some ⟨lb,0,none⟩)),(2,.pointer (some ⟨mb,0,none⟩)),(3,.pointer (some ⟨sb,0,none⟩)),(4,.pointer (some ⟨cb,0,none⟩))] T' → Will Try.prog main Z Stop (G (Frame.enter Try.prog 46 #[.pointer (some ⟨mb,0,none⟩),.pointer (some ⟨tb,0,none⟩)] .normal) ((base 50).at ⟨T',[]⟩ (.inRegion tlo7 [1] :: kt) :: cs0)) V) :
   Will Try.prog main Z Stop (G ((base 50).at ⟨T,[]⟩ (.code tl7 :: kt)) cs0) V:=by
 have e : tl7 = .region 7 tlo7 false:=by kernel_rfl
 rw [e]
 have hr : List.range tlo7.size = [0,1]:=by kernel_rfl
 refine mu_region mu_will ?_
 rw [hr]
 obtain ⟨hs,h0,h1,h2,h3,h4,-⟩:=hT
 refine opv (K:=fun g=>Will Try.prog main Z Stop g V) (L:=Lone) (muv_will hn) rfl (i:=0) (d:=20) (op:=.move (.tmp 0)) (v:=.pointer (some ⟨tb,0,none⟩)) (by kernel_rfl) (by kernel_rfl) (fun o ho τ=>?_) ?_
 · clear hs
   simp only [execOp,ho]
   go_simp
 have hT : Fg 22 [(0,.pointer (some ⟨tb,0,none⟩)),(1,.pointer (some ⟨lb,0,none⟩)),(2,.pointer (some ⟨mb,0,none⟩)),(3,.pointer (some ⟨sb,0,none⟩)),(4,.pointer (some ⟨cb,0,none⟩))] (T.setIfInBounds 20 (.pointer (some ⟨tb,0,none⟩))):=by
   refine ⟨by simp [hs],?_,?_,?_,?_,?_,trivial⟩ <;> (rw [Array.getElem?_setIfInBounds_ne (by decide)]; assumption)
 have m20 : (T.setIfInBounds 20 (.pointer (some ⟨tb,0,none⟩)))[20]? = some (.pointer (some ⟨tb,0,none⟩)):=by rw [Array.getElem?_setIfInBounds_self_of_lt (by rw [hs]; decide)]
 show Will Try.prog main Z Stop (G ((base 50).at ⟨T.setIfInBounds 20 (.pointer (some ⟨tb,0,none⟩)),[]⟩ (.inRegion tlo7 [1] :: kt)) cs0) V
 generalize T.setIfInBounds 20 (.pointer (some ⟨tb,0,none⟩)) = X0 at *
 clear hs h0 h1 h2 h3 h4
 have hT2:=hT
 obtain ⟨hs,h0,h1,h2,h3,h4,-⟩:=hT
 have hd0 : (tlo7[1]?).map (·.dst) = some (some 21):=by kernel_rfl
 refine opc (K:=fun g=>Will Try.prog main Z Stop g V) mu_will rfl (i:=1) (d:=some 21) (f:=46) (args:=#[.tmp 2,.tmp 20]) (ats:=#[95,50]) (by kernel_rfl) Try.func46 (by kernel_rfl) rfl fun hd=>?_
 have ea : (#[.tmp 2,.tmp 20] : Array Operand).map (Act.eval ⟨X0,[]⟩) = #[Value.pointer (some ⟨mb,0,none⟩),Value.pointer (some ⟨tb,0,none⟩)]:=by simp [Act.eval,h2,m20]
 rw [ea]
 exact K X0 hT2
theorem t50_7o {v : Value} (hT : Fg 22 [(0,.pointer (some ⟨tb,0,none⟩)),(1,.pointer (some ⟨lb,0,none⟩)),(2,.pointer (some ⟨mb,0,none⟩)),(3,.pointer (some ⟨sb,0,none⟩)),(4,.pointer (some ⟨cb,0,none⟩))] T) (K : ∀ T',Fg 22 [(0,.pointer (some ⟨tb,0,none⟩)),(1,.pointer (some ⟨lb,0,none⟩)),(2,.pointer (some ⟨mb,0,none⟩)),(3,.pointer (some ⟨sb,0,none⟩)),(4,.pointer (some ⟨cb,0,none⟩))] T' → Will Try.prog main Z Stop (G ((base 50).at ⟨T',[]⟩ kt) cs0) V) :
   Will Try.prog main Z Stop (G ((base 50).at (Act.put ⟨T,[]⟩ ((tlo7[1]?).bind (·.dst)) v) (.inRegion tlo7 [] :: kt)) cs0) V:=by
 have hd : (tlo7[1]?).map (·.dst) = some (some 21):=by kernel_rfl
 have hd2 : (tlo7[1]?).bind (·.dst) = some 21:=by
   rcases ho : tlo7[1]? with _ | o
   · rw [ho] at hd; cases hd
   · rw [ho] at hd; simpa using hd
 rw [hd2]
 refine mu_region_end mu_will (K (T.setIfInBounds 21 v) ?_)
 obtain ⟨hs,h0,h1,h2,h3,h4,-⟩:=hT
 refine ⟨by simpa using hs,?_,?_,?_,?_,?_,trivial⟩ <;> (rw [Array.getElem?_setIfInBounds_ne (by decide)]; assumption)
theorem t50_0 (hn : norm V = V) (hT : Fg 22 [(0,.pointer (some ⟨tb,0,none⟩)),(1,.pointer (some ⟨lb,0,none⟩)),(2,.pointer (some ⟨mb,0,none⟩)),(3,.pointer (some ⟨sb,0,none⟩)),(4,.pointer (some ⟨cb,0,none⟩))] T)
   (K : ∀ T',Fg 22 [(0,.pointer (some ⟨tb,0,none⟩)),(1,.pointer (some ⟨lb,0,none⟩)),(2,.pointer (some ⟨mb,0,none⟩)),(3,.pointer (some ⟨sb,0,none⟩)),(4,.pointer (some ⟨cb,0,none⟩)),(6,.int .i64 0)] T' → Will Try.prog main Z Stop (G ((base 50).at ⟨T',[]⟩ kt) cs0) V) :
   Will Try.prog main Z Stop (G ((base 50).at ⟨T,[]⟩ (.code tl0 :: kt)) cs0) V:=by
 refine wreg_go ⟨_,Try.func50⟩ (by kernel_rfl) K fun τ=>?_
 clear K
 obtain ⟨hs,h0,h1,h2,h3,h4,-⟩:=hT
 obtain ⟨f,hf,hT⟩:=array22f T hs
 rw [hT]
 simp only [hf _ _ h0,hf _ _ h1,hf _ _ h2,hf _ _ h3,hf _ _ h4]
 clear hf hs h0 h1 h2 h3 h4
 subst hT
 simp only [tl0,tlB,nva,Try.f50,Option.getD_some]
 go_wp2_with fail
 exact ⟨hn,⟨by simp,rfl,rfl,rfl,rfl,rfl,rfl,trivial⟩⟩
theorem t50_1 (hn : norm V = V) (el : V.heap[lb]? = some (.cells #[.int .u8 u] 5 (0,0))) (hu : 0 ≤ u ∧ u < 256) (hy : (y : Int) = u % 9) {x : Bool} (hx : decide ((k : Int) < (y : Int)) = x) (hT : Fg 22 [(0,.pointer (some ⟨tb,0,none⟩)),(1,.pointer (some ⟨lb,0,none⟩)),(2,.pointer (some ⟨mb,0,none⟩)),(3,.pointer (some ⟨sb,0,none⟩)),(4,.pointer (some ⟨cb,0,none⟩)),(6,.int .i64 (k : Int))] T)
   (K : ∀ T',Fg 22 [(0,.pointer (some ⟨tb,0,none⟩)),(1,.pointer (some ⟨lb,0,none⟩)),(2,.pointer (some ⟨mb,0,none⟩)),(3,.pointer (some ⟨sb,0,none⟩)),(4,.pointer (some ⟨cb,0,none⟩)),(6,.int .i64 (k : Int))] T' → T'[11]? = some (.bool x) → Will Try.prog main Z Stop (G ((base 50).at ⟨T',[]⟩ kt) cs0) V) :
   Will Try.prog main Z Stop (G ((base 50).at ⟨T,[]⟩ (.code tl1 :: kt)) cs0) V:=by
 refine wreg_gb ⟨_,Try.func50⟩ (by kernel_rfl) K fun τ=>?_
 clear K
 have c0 : (re V τ 0).cell? ⟨lb,0,none⟩ = some (.int .u8 u):=cell_of el (by simp)
 have w1 : IntKind.i64.wrap u = u:=by rw [IntKind.wrap_i64]; omega
 have w2 : IntKind.i64.wrap (u.tmod 9) = (y : Int):=by
   rw [Int.tmod_eq_emod_of_nonneg hu.1,← hy,IntKind.wrap_i64]; omega
 have w0 : u.tmod 9 = (y : Int):=by rw [Int.tmod_eq_emod_of_nonneg hu.1,← hy]
 have w3 : IntKind.i64.wrap (y : Int) = (y : Int):=by rw [IntKind.wrap_i64]; omega
 have hx':=hx
 clear el hu hy
 obtain ⟨hs,h0,h1,h2,h3,h4,h6,-⟩:=hT
 obtain ⟨f,hf,hT⟩:=array22f T hs
 rw [hT]
 simp only [hf _ _ h0,hf _ _ h1,hf _ _ h2,hf _ _ h3,hf _ _ h4,hf _ _ h6]
 clear hf hs h0 h1 h2 h3 h4 h6
 subst hT
 simp only [tl1,tlL,tlB,nva,nvb,nvk,nvl,Try.f50,Option.getD_some]
 cases x <;> go_wp2_with fail
 all_goals (first | exact ⟨hn,⟨by simp,rfl,rfl,rfl,rfl,rfl,rfl,trivial⟩⟩ | exact ⟨hn,⟨by simp,rfl,rfl,rfl,rfl,rfl,rfl,trivial⟩,rfl⟩ | (exfalso; simp at hx; omega) | (exfalso; simp at hx hy; omega) | (refine ⟨hn,⟨by simp,rfl,rfl,rfl,rfl,rfl,rfl,trivial⟩,?_⟩; simp at hx ⊢; omega) | (refine ⟨hn,⟨by simp,rfl,rfl,rfl,rfl,rfl,rfl,trivial⟩,?_⟩; simp at hx hy ⊢; omega))
theorem t50_2 (hn : norm V = V) (hk : k < 10) (hT : Fg 22 [(0,.pointer (some ⟨tb,0,none⟩)),(1,.pointer (some ⟨lb,0,none⟩)),(2,.pointer (some ⟨mb,0,none⟩)),(3,.pointer (some ⟨sb,0,none⟩)),(4,.pointer (some ⟨cb,0,none⟩)),(6,.int .i64 (k : Int))] T)
   (K : ∀ T',Fg 22 [(0,.pointer (some ⟨tb,0,none⟩)),(1,.pointer (some ⟨lb,0,none⟩)),(2,.pointer (some ⟨mb,0,none⟩)),(3,.pointer (some ⟨sb,0,none⟩)),(4,.pointer (some ⟨cb,0,none⟩)),(6,.int .i64 ((k + 1 : Nat) : Int))] T' → Will Try.prog main Z Stop (G ((base 50).at ⟨T',[]⟩ kt) cs0) V) :
   Will Try.prog main Z Stop (G ((base 50).at ⟨T,[]⟩ (.code tl2 :: kt)) cs0) V:=by
 refine wreg_go ⟨_,Try.func50⟩ (by kernel_rfl) K fun τ=>?_
 clear K
 have w1 : IntKind.i64.wrap ((k : Int) + 1) = ((k + 1 : Nat) : Int):=by rw [IntKind.wrap_i64]; omega
 obtain ⟨hs,h0,h1,h2,h3,h4,h6,-⟩:=hT
 obtain ⟨f,hf,hT⟩:=array22f T hs
 rw [hT]
 simp only [hf _ _ h0,hf _ _ h1,hf _ _ h2,hf _ _ h3,hf _ _ h4,hf _ _ h6]
 clear hf hs h0 h1 h2 h3 h4 h6
 subst hT
 simp only [tl2,tlL,tlB,nva,nvb,nvk,nvl,Try.f50,Option.getD_some]
 go_wp2_with fail
 exact ⟨hn,⟨by simp,rfl,rfl,rfl,rfl,rfl,rfl,trivial⟩⟩
theorem t50_5 (hn : norm V = V) (es : V.heap[sb]? = some (.cells #[.bool so] 4 (0,0))) (hT : Fg 22 [(0,.pointer (some ⟨tb,0,none⟩)),(1,.pointer (some ⟨lb,0,none⟩)),(2,.pointer (some ⟨mb,0,none⟩)),(3,.pointer (some ⟨sb,0,none⟩)),(4,.pointer (some ⟨cb,0,none⟩))] T)
   (K : ∀ T',Fg 22 [(0,.pointer (some ⟨tb,0,none⟩)),(1,.pointer (some ⟨lb,0,none⟩)),(2,.pointer (some ⟨mb,0,none⟩)),(3,.pointer (some ⟨sb,0,none⟩)),(4,.pointer (some ⟨cb,0,none⟩))] T' → Will Try.prog main Z Stop (G ((base 50).at ⟨T',[]⟩ kt) cs0) (V.setCell ⟨sb,0,none⟩ (.bool true))) :
   Will Try.prog main Z Stop (G ((base 50).at ⟨T,[]⟩ (.code tl5 :: kt)) cs0) V:=by
 refine wreg_go ⟨_,Try.func50⟩ (by kernel_rfl) K fun τ=>?_
 clear K
 have c0 : (re V τ 0).cell? ⟨sb,0,none⟩ = some (.bool so):=cell_of es (by simp)
 have z0 : (re V τ 0).frozen? ⟨sb,0,none⟩ = false:=by simp [World.frozen?,re,es]
 clear es
 obtain ⟨hs,h0,h1,h2,h3,h4,-⟩:=hT
 obtain ⟨f,hf,hT⟩:=array22f T hs
 rw [hT]
 simp only [hf _ _ h0,hf _ _ h1,hf _ _ h2,hf _ _ h3,hf _ _ h4]
 clear hf hs h0 h1 h2 h3 h4
 subst hT
 simp only [tl5,tlX5,tlX4,tlB,nva,nvb,Try.f50,Option.getD_some]
 go_wp2_with fail
 exact ⟨norm_set hn _ _,⟨by simp,rfl,rfl,rfl,rfl,rfl,trivial⟩⟩
theorem t50_head (hn : norm V = V) (hy9 : y < 9) (el : V.heap[lb]? = some (.cells #[.int .u8 u] 5 (0,0))) (hu : 0 ≤ u ∧ u < 256) (hy : (y : Int) = u % 9) (hk : k ≤ y) (hT : Fg 22 [(0,.pointer (some ⟨tb,0,none⟩)),(1,.pointer (some ⟨lb,0,none⟩)),(2,.pointer (some ⟨mb,0,none⟩)),(3,.pointer (some ⟨sb,0,none⟩)),(4,.pointer (some ⟨cb,0,none⟩)),(6,.int .i64 (k : Int))] T)
   (K1 : k < y → ∀ T',Fg 22 [(0,.pointer (some ⟨tb,0,none⟩)),(1,.pointer (some ⟨lb,0,none⟩)),(2,.pointer (some ⟨mb,0,none⟩)),(3,.pointer (some ⟨sb,0,none⟩)),(4,.pointer (some ⟨cb,0,none⟩)),(6,.int .i64 (k : Int))] T' → Will Try.prog main Z Stop (G (Frame.enter Try.prog 24 #[.pointer (some ⟨tb,0,none⟩)] .normal) (tlF3 T' :: cs0)) V)
   (K2 : k = y → ∀ T',Fg 22 [(0,.pointer (some ⟨tb,0,none⟩)),(1,.pointer (some ⟨lb,0,none⟩)),(2,.pointer (some ⟨mb,0,none⟩)),(3,.pointer (some ⟨sb,0,none⟩)),(4,.pointer (some ⟨cb,0,none⟩))] T' → Will Try.prog main Z Stop (G (Frame.enter Try.prog 45 #[.pointer (some ⟨mb,0,none⟩),.pointer (some ⟨tb,0,none⟩)] .normal) (tlF4 T' :: cs0)) V) :
   Will Try.prog main Z Stop (G ((base 50).at ⟨T,[]⟩ [.code tlL,.inLoop tlL,.inBlock 0,.code tlX4]) cs0) V:=by
 refine (fun (h : ∀ X,X = tlL → Will Try.prog main Z Stop (G ((base 50).at ⟨T,[]⟩ (.code X :: [.inLoop tlL,.inBlock 0,.code tlX4])) cs0) V)=>h _ rfl) ?_
 intro X hX
 rw [tlL_eq] at hX
 subst hX
 by_cases hlt : k < y
 · refine mu_seq mu_will (mu_seq mu_will (t50_1 (x:=true) hn el hu hy (decide_eq_true (by omega)) hT fun T1 hT1 h11=>?_))
   refine mu_cond mu_will true (evt h11) (mu_skip mu_will (mu_seq mu_will (mu_block mu_will ?_)))
   exact t50_3 hn hT1 (K1 hlt)
 · refine mu_seq mu_will (mu_seq mu_will (t50_1 (x:=false) hn el hu hy (decide_eq_false (by omega)) hT fun T1 hT1 h11=>?_))
   refine mu_cond mu_will false (evt h11) (mu_exit mu_will rfl ?_)
   obtain ⟨hs,h0,h1,h2,h3,h4,h6,-⟩:=hT1
   refine (fun (h : ∀ X,X = tlX4 → Will Try.prog main Z Stop (G ((base 50).at ⟨T1,[]⟩ (.code X :: [])) cs0) V)=>h _ rfl) ?_
   intro X hX
   rw [tlX4_eq] at hX
   subst hX
   exact mu_seq mu_will (t50_4 hn ⟨hs,h0,h1,h2,h3,h4,trivial⟩ (K2 (by omega)))
theorem t50_in (hn : norm V = V) (hy9 : y < 9) (el : V.heap[lb]? = some (.cells #[.int .u8 u] 5 (0,0))) (hu : 0 ≤ u ∧ u < 256) (hy : (y : Int) = u % 9)
   (K1 : 0 < y → ∀ T',Fg 22 [(0,.pointer (some ⟨tb,0,none⟩)),(1,.pointer (some ⟨lb,0,none⟩)),(2,.pointer (some ⟨mb,0,none⟩)),(3,.pointer (some ⟨sb,0,none⟩)),(4,.pointer (some ⟨cb,0,none⟩)),(6,.int .i64 ((0 : Nat) : Int))] T' → Will Try.prog main Z Stop (G (Frame.enter Try.prog 24 #[.pointer (some ⟨tb,0,none⟩)] .normal) (tlF3 T' :: cs0)) V)
   (K2 : 0 = y → ∀ T',Fg 22 [(0,.pointer (some ⟨tb,0,none⟩)),(1,.pointer (some ⟨lb,0,none⟩)),(2,.pointer (some ⟨mb,0,none⟩)),(3,.pointer (some ⟨sb,0,none⟩)),(4,.pointer (some ⟨cb,0,none⟩))] T' → Will Try.prog main Z Stop (G (Frame.enter Try.prog 45 #[.pointer (some ⟨mb,0,none⟩),.pointer (some ⟨tb,0,none⟩)] .normal) (tlF4 T' :: cs0)) V) :
   Will Try.prog main Z Stop (G (Frame.enter Try.prog 50 #[.pointer (some ⟨tb,0,none⟩),.pointer (some ⟨lb,0,none⟩),.pointer (some ⟨mb,0,none⟩),.pointer (some ⟨sb,0,none⟩),.pointer (some ⟨cb,0,none⟩)] .normal) cs0) V:=by
 rw [enter_at (P:=Try.prog) _ Try.func50 tlB_eq]
 have hnt : Try.f50.ntmps = 22:=rfl
 rw [hnt]
 refine mu_seq mu_will (mu_seq mu_will ?_)
 refine t50_0 (tb:=tb) (lb:=lb) (mb:=mb) (sb:=sb) (cb:=cb) hn ⟨by simp,by simp,by simp,by simp,by simp,by simp,trivial⟩ fun T1 hT1=>?_
 refine mu_block mu_will (mu_loop mu_will ?_)
 exact t50_head (k:=0) hn hy9 el hu hy (Nat.zero_le _) hT1 K1 K2
theorem t50_back (hn : norm V = V) (hy9 : y < 9) (el : V.heap[lb]? = some (.cells #[.int .u8 u] 5 (0,0))) (hu : 0 ≤ u ∧ u < 256) (hy : (y : Int) = u % 9) {v : Value} (hk : k + 1 ≤ y) (hT : Fg 22 [(0,.pointer (some ⟨tb,0,none⟩)),(1,.pointer (some ⟨lb,0,none⟩)),(2,.pointer (some ⟨mb,0,none⟩)),(3,.pointer (some ⟨sb,0,none⟩)),(4,.pointer (some ⟨cb,0,none⟩)),(6,.int .i64 (k : Int))] T)
   (K1 : k + 1 < y → ∀ T',Fg 22 [(0,.pointer (some ⟨tb,0,none⟩)),(1,.pointer (some ⟨lb,0,none⟩)),(2,.pointer (some ⟨mb,0,none⟩)),(3,.pointer (some ⟨sb,0,none⟩)),(4,.pointer (some ⟨cb,0,none⟩)),(6,.int .i64 ((k + 1 : Nat) : Int))] T' → Will Try.prog main Z Stop (G (Frame.enter Try.prog 24 #[.pointer (some ⟨tb,0,none⟩)] .normal) (tlF3 T' :: cs0)) V)
   (K2 : k + 1 = y → ∀ T',Fg 22 [(0,.pointer (some ⟨tb,0,none⟩)),(1,.pointer (some ⟨lb,0,none⟩)),(2,.pointer (some ⟨mb,0,none⟩)),(3,.pointer (some ⟨sb,0,none⟩)),(4,.pointer (some ⟨cb,0,none⟩))] T' → Will Try.prog main Z Stop (G (Frame.enter Try.prog 45 #[.pointer (some ⟨mb,0,none⟩),.pointer (some ⟨tb,0,none⟩)] .normal) (tlF4 T' :: cs0)) V) :
   Will Try.prog main Z Stop (G ((base 50).at (Act.put ⟨T,[]⟩ ((tlo3[1]?).bind (·.dst)) v) [.inRegion tlo3 [],.inBlock 1,.code tl2,.inLoop tlL,.inBlock 0,.code tlX4]) cs0) V:=by
 refine t50_3o hT fun T1 hT1=>mu_inBlock mu_will ?_
 refine t50_2 hn (by omega) hT1 fun T2 hT2=>mu_inLoop mu_will ?_
 exact t50_head (k:=k + 1) hn hy9 el hu hy hk hT2 K1 K2
theorem t50_lock (hn : norm V = V) {v : Value} (es : V.heap[sb]? = some (.cells #[.bool so] 4 (0,0))) (hT : Fg 22 [(0,.pointer (some ⟨tb,0,none⟩)),(1,.pointer (some ⟨lb,0,none⟩)),(2,.pointer (some ⟨mb,0,none⟩)),(3,.pointer (some ⟨sb,0,none⟩)),(4,.pointer (some ⟨cb,0,none⟩))] T)
   (K : ∀ T',Fg 22 [(0,.pointer (some ⟨tb,0,none⟩)),(1,.pointer (some ⟨lb,0,none⟩)),(2,.pointer (some ⟨mb,0,none⟩)),(3,.pointer (some ⟨sb,0,none⟩)),(4,.pointer (some ⟨cb,0,none⟩))] T' → Will Try.prog main Z Stop (G (Frame.enter Try.prog 51 #[.pointer (some ⟨cb,0,none⟩),.pointer (some ⟨tb,0,none⟩)] .normal) (tlF6 T' :: cs0)) (V.setCell ⟨sb,0,none⟩ (.bool true))) :
   Will Try.prog main Z Stop (G ((base 50).at (Act.put ⟨T,[]⟩ ((tlo4[1]?).bind (·.dst)) v) [.inRegion tlo4 [],.code tlX5]) cs0) V:=by
 refine t50_4o hT fun T1 hT1=>?_
 refine (fun (h : ∀ X,X = tlX5 → Will Try.prog main Z Stop (G ((base 50).at ⟨T1,[]⟩ (.code X :: [])) cs0) V)=>h _ rfl) ?_
 intro X hX
 rw [tlX5_eq] at hX
 subst hX
 refine mu_seq mu_will (t50_5 hn es hT1 fun T2 hT2=>?_)
 refine (fun (h : ∀ X,X = tlX6 → Will Try.prog main Z Stop (G ((base 50).at ⟨T2,[]⟩ (.code X :: [])) cs0) (V.setCell ⟨sb,0,none⟩ (.bool true)))=>h _ rfl) ?_
 intro X hX
 rw [tlX6_eq] at hX
 subst hX
 exact mu_seq mu_will (t50_6 (norm_set hn _ _) hT2 K)
theorem t50_bc (hn : norm V = V) {v : Value} (hT : Fg 22 [(0,.pointer (some ⟨tb,0,none⟩)),(1,.pointer (some ⟨lb,0,none⟩)),(2,.pointer (some ⟨mb,0,none⟩)),(3,.pointer (some ⟨sb,0,none⟩)),(4,.pointer (some ⟨cb,0,none⟩))] T)
   (K : ∀ T',Fg 22 [(0,.pointer (some ⟨tb,0,none⟩)),(1,.pointer (some ⟨lb,0,none⟩)),(2,.pointer (some ⟨mb,0,none⟩)),(3,.pointer (some ⟨sb,0,none⟩)),(4,.pointer (some ⟨cb,0,none⟩))] T' → Will Try.prog main Z Stop (G (Frame.enter Try.prog 46 #[.pointer (some ⟨mb,0,none⟩),.pointer (some ⟨tb,0,none⟩)] .normal) (tlF7 T' :: cs0)) V) :
   Will Try.prog main Z Stop (G ((base 50).at (Act.put ⟨T,[]⟩ ((tlo6[1]?).bind (·.dst)) v) [.inRegion tlo6 [],.code tl7]) cs0) V:=by
 refine t50_6o hT fun T1 hT1=>?_
 exact t50_7 hn hT1 K
theorem t50_over {v : Value} (hT : Fg 22 [(0,.pointer (some ⟨tb,0,none⟩)),(1,.pointer (some ⟨lb,0,none⟩)),(2,.pointer (some ⟨mb,0,none⟩)),(3,.pointer (some ⟨sb,0,none⟩)),(4,.pointer (some ⟨cb,0,none⟩))] T) (K : Will Try.prog main Z Stop (G (b₀.at (a₀.put ((ops₀[i₀]?).bind (·.dst)) (.tuple #[])) (.inRegion ops₀ rest₀ :: k₀)) cs0) V) :
   Will Try.prog main Z Stop (G ((base 50).at (Act.put ⟨T,[]⟩ ((tlo7[1]?).bind (·.dst)) v) [.inRegion tlo7 []]) (b₀.at a₀ (.inRegion ops₀ (i₀ :: rest₀) :: k₀) :: cs0)) V:=by
 refine t50_7o hT fun T1 hT1=>mu_end mu_will ?_
 exact mu_leave0 mu_will rfl rfl Try.func50 rfl K
end
end Go.Proofs.Ytibcdikfbhmheaa
