import Derived.Test.YtibcdikfbhmheaaQK08
set_option linter.unusedSimpArgs false
set_option linter.unusedVariables false
namespace Go.Proofs.Ytibcdikfbhmheaa
open Go Go.Conc Go.Proofs
open Go.ConcN (sumTo upd sumTo_upd upd_ne upd_same)
set_option linter.unusedVariables false
theorem row_cellsL {V : World} {e : TypeId} {sz : Nat} {v : Value} {n : Nat} {xs : List Value} (h : V.ownsRow 0 e sz v n xs) (hn : 0 < n) : ∃ g c,v = .slice (some ⟨g,0,none⟩) n c ∧ g < V.heap.size ∧ ∀ j x,xs[j]? = some x → V.cell? ⟨g,j,none⟩ = some x:=by
 obtain ⟨h1,h2⟩:=h
 rcases h2 with ⟨rfl,rfl⟩ | ⟨g,cap,cur,rfl,_,h4,h5,h6,h7,h8⟩
 · omega
 · refine ⟨g,cap,rfl,(Array.getElem?_eq_some_iff.1 h4).1,fun j x hx=>cell_of h4 ?_⟩
   rw [← h8] at hx
   have hj : j < n * sz:=by
     apply Nat.lt_of_not_le
     intro hge
     rw [List.getElem?_eq_none (by rw [List.length_take]; omega)] at hx
     cases hx
   rw [List.getElem?_take,if_pos hj] at hx
   simpa using hx
theorem kp_atL {V V' : World} (k : Kp V V') {b : Nat} {o : Obj} (h : V.heap[b]? = some o) : V'.heap[b]? = some o:=(k.keep b (Array.getElem?_eq_some_iff.1 h).1).trans h
def ltw (mb sb cb hb : Nat) : Value:=.func (.func 48) #[] #[bq mb,bq sb,bq cb,bq hb]
def ltt (lb mb sb cb : Nat) : Value:=.func (.func 50) #[] #[bq lb,bq mb,bq sb,bq cb]
def ltfs (lb mb sb cb hb k : Nat) : List Value:=ltt lb mb sb cb :: List.replicate k (ltw mb sb cb hb)
theorem ltfs_succ (lb mb sb cb hb k : Nat) : ltfs lb mb sb cb hb k ++ [ltw mb sb cb hb] = ltfs lb mb sb cb hb (k + 1):=by
 unfold ltfs
 rw [List.cons_append,← List.replicate_succ']
structure LF (V0 : World) (lb mb sb cb hb k : Nat) (fa : Option Addr) (fc : Nat) (V : World) : Prop where
 nrm : norm V = V
 kp : Kp V0 V
 row : V.ownsRow 0 70 1 (.slice fa (k + 1) fc) (k + 1) (ltfs lb mb sb cb hb k)
 own : ∀ b,(Value.slice fa (k + 1) fc).ownBlock = some b → V0.heap.size ≤ b
section
variable {W V0 V : World} {Z : Cuts} {a u n pl pc lb mb cb sb hb i fc : Nat} {pa fa : Option Addr} {T : Array Value} {kt : List Item} {cs0 : List Frame} {ps : List Int}
def LTF (lb mb sb cb hb n k i pl pc fc : Nat) (pa fa : Option Addr) (T : Array Value) : Prop:=Fg 53 [(2,.slice pa pl pc),(7,.int .i64 (n : Int)),(8,.pointer (some ⟨mb,0,none⟩)),(9,.pointer (some ⟨cb,0,none⟩)),(10,.pointer (some ⟨sb,0,none⟩)),(11,.pointer (some ⟨hb,0,none⟩)),(12,ltw mb sb cb hb),(14,.slice fa k fc),(15,.int .i64 (i : Int))] T
theorem x_loop (hn9 : n < 9) : ∀ (q i : Nat) (fa : Option Addr) (fc : Nat) (V : World) (T : Array Value),q + i = n → LF V0 lb mb sb cb hb i fa fc V → LTF lb mb sb cb hb n (i + 1) i pl pc fc pa fa T →
   (∀ fa fc V' T',LF V0 lb mb sb cb hb n fa fc V' → LTF lb mb sb cb hb n (n + 1) n pl pc fc pa fa T' → To0 Try.prog (LPost W) Z V' (G ((base 11).at ⟨T',[]⟩ kt) cs0)) →
   To0 Try.prog (LPost W) Z V (G ((base 11).at ⟨T,[]⟩ (.code mL :: .inLoop mL :: .inBlock 0 :: kt)) cs0):=by
 intro q
 induction q with
 | zero =>
   intro i fa fc V T hq M hT K
   refine (fun (h : ∀ Y,Y = mL → To0 Try.prog (LPost W) Z V (G ((base 11).at ⟨T,[]⟩ (.code Y :: .inLoop mL :: .inBlock 0 :: kt)) cs0))=>h mL rfl) ?_
   intro Y hY
   rw [mL_eq] at hY
   subst hY
   refine mu_seq mu_to0 (mu_seq mu_to0 ?_)
   refine x_r11 (x:=false) M.nrm (decide_eq_false (by omega)) hT fun T1 hT1 h29=>?_
   refine mu_cond mu_to0 false (evt h29) ?_
   refine mu_exit mu_to0 rfl ?_
   obtain rfl : i = n:=by omega
   exact K fa fc V T1 M hT1
 | succ q ih =>
   intro i fa fc V T hq M hT K
   refine (fun (h : ∀ Y,Y = mL → To0 Try.prog (LPost W) Z V (G ((base 11).at ⟨T,[]⟩ (.code Y :: .inLoop mL :: .inBlock 0 :: kt)) cs0))=>h mL rfl) ?_
   intro Y hY
   rw [mL_eq] at hY
   subst hY
   refine mu_seq mu_to0 (mu_seq mu_to0 ?_)
   refine x_r11 (x:=true) M.nrm (decide_eq_true (by omega)) hT fun T1 hT1 h29=>?_
   refine mu_cond mu_to0 true (evt h29) ?_
   refine mu_skip mu_to0 (mu_seq mu_to0 (mu_block mu_to0 ?_))
   refine x_r13 M.nrm M.row (by omega) hT1 fun T2 V2 wa wc hT2 n2 r2 s2 k2 o2=>mu_inBlock mu_to0 ?_
   refine x_r12 n2 (by omega) hT2 fun T3 hT3=>mu_inLoop mu_to0 ?_
   refine ih (i + 1) wa wc V2 T3 (by omega) ⟨n2,⟨by have:=M.kp.size; omega,fun b hb=>by rw [k2 b (by have:=M.kp.size; omega) (fun e=>by have:=M.own b e; omega)]; exact M.kp.keep b hb⟩,?_,fun b hb=>?_⟩ hT3 K
   · rw [← ltfs_succ]; exact r2
   · rcases o2 b hb with h | h
     · exact M.own b h
     · have:=M.kp.size; omega
theorem ltfs_at {k : Nat} (h : k < n + 1) : (ltfs lb mb sb cb hb n)[k]? = some (if k = 0 then ltt lb mb sb cb else ltw mb sb cb hb):=by
 unfold ltfs
 cases k with
 | zero=>rfl
 | succ k =>
   rw [List.getElem?_cons_succ,List.getElem?_replicate,if_pos (by omega),if_neg (by omega)]
theorem ltfs_get {k : Nat} (h : k < n + 1) : (ltfs lb mb sb cb hb n).getD k .nilFunc = if k = 0 then ltt lb mb sb cb else ltw mb sb cb hb:=by
 rw [List.getD_eq_getElem?_getD,ltfs_at h]
 rfl
set_option maxHeartbeats 1000000 in
theorem lock_told (L : LS W Z V) (ha : a < 256) (hu : u < 256) (hpl : ps.length = pl) (hp : Pks V (fun _=>False) (.slice pa pl pc) ps) :
   To0 Try.prog (LPost W) Z V (G (Frame.enter Try.prog 11 #[.int .u8 (a : Int),.int .u8 (u : Int),.slice pa pl pc] .normal) []):=by
 rw [enter_at (P:=Try.prog) _ Try.func11 rfl]
 refine (fun (h : ∀ T : Array Value,Fg 53 [(0,.int .u8 (a : Int)),(1,.int .u8 (u : Int)),(2,.slice pa pl pc)] T → To0 Try.prog (LPost W) Z V (G ((base 11).at ⟨T,[]⟩ [.code mB]) []))=>h _ ⟨by simp [Try.f11],by simp,by simp,by simp,trivial⟩) ?_
 intro T hT
 rw [mB_eq]
 refine mu_seq mu_to0 ?_
 refine x_r0 L.n hT fun T1 V1 hT1 n1 k1 s1 e1=>?_
 refine mu_seq mu_to0 (mu_seq mu_to0 ?_)
 refine x_r1 (x:=decide ((200 : Int) < (pl : Int))) n1 rfl hT1 fun T2 hT2 h18=>?_
 by_cases hbig : 200 < pl
 · have e : decide ((200 : Int) < (pl : Int)) = true:=by simp; omega
   rw [e] at h18
   refine mu_cond mu_to0 true (evt h18) ?_
   exact x_live (L.same n1 k1) hT2.1
 have e : decide ((200 : Int) < (pl : Int)) = false:=by simp; omega
 rw [e] at h18
 refine mu_cond mu_to0 false (evt h18) (mu_skip mu_to0 ?_)
 obtain ⟨n,hr⟩ : ∃ n,a % 9 = n:=⟨_,rfl⟩
 refine mu_seq mu_to0 ?_
 refine x_r3 n1 ha hr hT2 fun T3 hT3=>?_
 refine mu_seq mu_to0 ?_
 refine x_r4 n1 hT3 fun T4 V4 hT4 n4 k4 s4 e4=>?_
 refine mu_seq mu_to0 ?_
 refine x_r5 n4 hT4 fun T5 V5 hT5 n5 k5 s5 e5=>?_
 refine mu_seq mu_to0 ?_
 refine x_r6 n5 hT5 fun T6 V6 hT6 n6 k6 s6 e6 e7=>?_
 refine mu_seq mu_to0 ?_
 refine x_r7 n6 hT6 fun T7 hT7=>?_
 refine mu_seq mu_to0 ?_
 refine x_r8 n6 hT7 fun T8 hT8=>?_
 refine mu_seq mu_to0 ?_
 refine x_r9 n6 hT8 fun T9 V9 hT9 n9 k9 s9 e9=>?_
 refine mu_seq mu_to0 (mu_seq mu_to0 ?_)
 refine x_r10 n9 hT9 fun T10 hT10=>?_
 refine mu_block mu_to0 (mu_loop mu_to0 ?_)
 have f1:=kp_atL k6 (kp_atL k5 (kp_atL k4 e1))
 have f4:=kp_atL k6 (kp_atL k5 e4)
 have f5:=kp_atL k6 e5
 have kk : Kp V V6:=((k1.trans k4).trans k5).trans k6
 clear k1 k4 k5 k6 e1 e4 e5 n1 n4 n5 hT hT1 hT2 hT3 hT4 hT5 hT6 hT7 hT8 hT9 h18 e
 generalize hlb : V.heap.size = lb at *
 generalize hmb : V1.heap.size = mb at *
 generalize hcb : V4.heap.size = cb at *
 generalize hsb : V5.heap.size = sb at *
 generalize hhb : sb + 1 = hb at *
 have hn9 : n < 9:=by omega
 have M0 : LF V6 lb mb sb cb hb 0 (some ⟨V6.heap.size,0,none⟩) 1 V9:=⟨n9,k9,⟨rfl,.inr ⟨V6.heap.size,1,#[ltt lb mb sb cb],rfl,Nat.zero_le _,e9,Nat.le_refl _,by simp [maxLen],rfl,rfl⟩⟩,fun b hb=>by
   have:=Option.some.inj (show some V6.heap.size = some b from hb)
   omega⟩
 refine x_loop (V0:=V6) hn9 n 0 _ _ V9 T10 (by omega) M0 hT10 fun fa fc V10 T11 M hT11=>?_
 clear M0 hT10 e9 n9 k9
 refine mu_seq mu_to0 ?_
 refine x_r14 M.nrm hT11 fun T12 hT12=>?_
 -- the call of Run
 have g1:=kp_atL M.kp f1
 have g4:=kp_atL M.kp f4
 have g5:=kp_atL M.kp f5
 have g6:=kp_atL M.kp e6
 have g7:=kp_atL M.kp e7
 have k10 : Kp V V10:=kk.trans M.kp
 have L10:=L.same M.nrm k10
 have hs10:=k10.size
 obtain ⟨y,hy⟩ : ∃ y : Nat,(y : Int) = (u : Int) % 9:=⟨u % 9,by omega⟩
 obtain ⟨D,hD⟩ : ∃ D : Ld,D = ⟨n,y,(u : Int),lb,mb,sb,cb,hb⟩:=⟨_,rfl⟩
 have hDn : D.n = n:=by rw [hD]
 have hDm : D.mb = mb:=by rw [hD]
 have hDc : D.cb = cb:=by rw [hD]
 have hDh : D.hb = hb:=by rw [hD]
 have hX : ∀ b,D.X b ↔ b = lb ∨ b = sb ∨ b = hb:=fun b=>by rw [hD]; exact Iff.rfl
 have O : LdOk D:=by
   subst hD
   exact ⟨⟨by show (0 : Int) ≤ (u : Int); omega,by show (u : Int) < 256; omega⟩,hy,by show n ≤ 8; omega,by show mb ≠ cb; omega,fun h=>by rcases (hX _).1 h with h | h | h <;> (have h : mb = _:=h; omega),fun h=>by rcases (hX _).1 h with h | h | h <;> (have h : cb = _:=h; omega),by show sb ≠ hb; omega,by show sb ≠ lb; omega,by show hb ≠ lb; omega⟩
 have hown0 : ∀ b,(b = mb ∨ b = cb ∨ D.X b) → V.heap.size ≤ b ∧ b < V10.heap.size:=fun b hb=>by
   have h1:=(Array.getElem?_eq_some_iff.1 g1).1
   have h4:=(Array.getElem?_eq_some_iff.1 g4).1
   have h5:=(Array.getElem?_eq_some_iff.1 g5).1
   have h6:=(Array.getElem?_eq_some_iff.1 g6).1
   have h7:=(Array.getElem?_eq_some_iff.1 g7).1
   rw [hX] at hb
   rcases hb with rfl | rfl | rfl | rfl | rfl <;> omega
 have hI0 : LtInv D Lt.zero (fun b=>b = mb ∨ b = cb ∨ D.X b) V10:=by
   refine ⟨Lt.ok_zero _ _,.slice none 0 0,.slice none 0 0,?_⟩
   subst hD
   exact ⟨⟨cell_of g4 (by simp),by simp [World.frozen?,g4],cell_of g4 (by simp [Lt.zero]),by simp [World.frozen?,g4],⟨rfl,.inl ⟨rfl,rfl⟩⟩,fun b h=>(by cases h),fun h=>(by cases h),.inl rfl⟩,g5,⟨rfl,.inl ⟨rfl,rfl⟩⟩,.inr (.inl rfl),fun b h=>(by cases h),fun h=>(by cases h),fun h=>(by cases h),fun h=>(by cases h),g6,g7,g1,fun b hb=>.inr (.inr hb),fun b h=>(by cases h),fun b h=>(by cases h)⟩
 have hfl : (ltfs lb mb sb cb hb n).length = n + 1:=by simp [ltfs]
 have hF : FnRow V10 (.slice fa (n + 1) fc) (ltfs lb mb sb cb hb n):=by
   refine ⟨⟨fa,fc,by rw [hfl],fun h0=>?_⟩,fun k hk=>.inr ?_⟩
   · obtain ⟨g,c,e,hg,hc⟩:=row_cellsL M.row (by omega)
     injection e with e _ _
     refine ⟨g,0,e,hg,fun k hk=>?_⟩
     rw [Nat.zero_add,ltfs_get (by omega)]
     exact hc k _ (ltfs_at (by omega))
   · rw [ltfs_get (by omega)]
     split
     · exact ⟨_,_,_,rfl⟩
     · exact ⟨_,_,_,rfl⟩
 have hP : Pks V10 (fun b=>b = mb ∨ b = cb ∨ D.X b) (.slice pa pl pc) ps:=by
   obtain ⟨⟨pb,pcc,epv,hpr⟩,hpr2⟩:=hp
   refine ⟨⟨pb,pcc,epv,fun h0=>?_⟩,hpr2⟩
   obtain ⟨g,o,e,hg,_,hc⟩:=hpr h0
   exact ⟨g,o,e,by omega,fun h=>by have:=(hown0 g h).1; omega,fun k hk=>k10.cell (hc k hk)⟩
 refine run_go (U:=fun C=>Ult D C) (σ0:=fun _=>(Lt.zero : Lt)) (own0:=fun b=>b = mb ∨ b = cb ∨ D.X b) (Rn:=200) M.nrm hF (by rw [hfl]; omega) L10.z (fun b h=>(hown0 b h).2) hP.u (by omega) (by simp) (fun C E hOk hCn hf=>?_) (fun C hCn i hi=>?_) (fun C _=>hI0) fun C σ' xs' Z' V11 ov ovr pkr own' hCn he A=>?_
 · rw [hfl] at hCn
   refine ult_ok hOk O (by omega) ?_ fun i h1 hi=>?_
   · rw [hf 0,ltfs_get (by omega),if_pos rfl]
     subst hD
     rfl
   · rw [hf i,ltfs_get (by omega),if_neg (by omega)]
     subst hD
     rfl
 · rw [hfl] at hi
   show Lt.st D.y Lt.zero i = st0 (ltfs lb mb sb cb hb n) i
   unfold st0
   rw [ltfs_get hi]
   have e1 : Lt.st D.y Lt.zero i = 0:=by
     by_cases e : i = 0
     · subst e; rfl
     · rw [Lt.st_waiter (by omega)]; rfl
   rw [e1]
   by_cases e : i = 0
   · rw [if_pos e]; rfl
   · rw [if_neg e]; rfl
 rw [hfl] at hCn he
 obtain ⟨hok,qv,cv,hI⟩ : LtInv D σ' own' V11:=A.inv
 have hrun:=ult_run (C:=C) O (by omega) (fun p h=>pidx_ltL h p) ps 200 (by decide) (σ',xs') (by rw [hDn]; exact he)
 obtain ⟨_,how,hcq,hthr⟩:=hrun
 have k11 : Kp V V11:=⟨by have:=A.big; omega,fun b hb=>by
   rw [A.keep b (by omega) (fun h=>by have:=(hown0 b h).1; omega)]
   exact k10.keep b hb⟩
 have L11:=L.next A.nrm A.shut (fun b hb=>A.zold b (by omega)) k11
 have e8:=hI.eh
 rw [hthr,hDn,hDh] at e8
 have hqu:=hI.qu
 have hcq' : (σ' : Lt).cq = []:=hcq
 rw [hcq'] at hqu
 obtain ⟨xb,xc,hcv⟩:=hqu.sl
 have e9 : V11.cell? ⟨cb,0,none⟩ = some (.slice xb 0 xc):=by
   have h:=cell_of hI.ec (k:=0) (v:=cv) (by simp)
   rw [hDc,hcv] at h
   exact h
 have e5:=hI.mu.c1
 have how' : (σ' : Lt).ow = 0:=how
 rw [how',hDm] at e5
 exact x_end L11 e8 e9 e5 hT12
end
end Go.Proofs.Ytibcdikfbhmheaa
