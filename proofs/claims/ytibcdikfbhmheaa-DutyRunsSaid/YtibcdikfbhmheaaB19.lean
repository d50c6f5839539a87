import Derived.Test.YtibcdikfbhmheaaB18
import Derived.Laws.Panics
set_option linter.unusedSimpArgs false
set_option linter.unusedVariables false
set_option maxRecDepth 100000
set_option maxHeartbeats 4000000
namespace Go.Proofs.Ytibcdikfbhmheaa
open Go Go.Conc Go.Proofs
open Go.ConcN (sumTo upd sumTo_upd upd_ne upd_same)
set_option linter.unusedVariables false
noncomputable def E1t : Code:=nce (nvb SWt)
noncomputable def E2t : Code:=nce (nvb E1t)
noncomputable def E3t : Code:=nce (nvb E2t)
noncomputable def E4t : Code:=nce (nvb E3t)
noncomputable def R14t : Code:=nct (nvb E4t)
section
variable {P : Program} {L : List FuncId} {md : Region.Mode} {ops : Array Oper} {V : World} {j : Nat} {X : Nat → Array Bool → Act → Prop} {Q : Act → Prop}
end
theorem bp_norm {α : Type} (P : Program) (k : IntKind) (x y : Int) (code : BoundsCode) (w : World) : ∃ v w',(boundsPanic k x y code : Sem α).run P w = .halt (.panic v) w' ∧ norm w' = norm w:=by
 obtain ⟨s,w',h⟩:=run_boundsPanic (P:=P) (w:=w) (α:=α) k x y code
 refine ⟨_,w',h,?_⟩
 unfold boundsPanic at h
 split at h
 · simp [runtimePanic,goPanic,go_sem,boundsValue] at h
   rw [← h.2]
   rfl
 · simp [runtimePanic,goPanic,go_sem,boundsValue] at h
   rw [← h.2]
theorem idx_out (sb : Option Addr) (sn sc : Nat) (w : World) : ∃ v w',(Instr.indexAt 32 (.slice sb sn sc) (.int .i64 (sn : Int))).run Try.prog w = .halt (.panic v) w' ∧ norm w' = norm w:=by
 cases sb with
 | some a =>
   obtain ⟨v,w',h1,h2⟩:=bp_norm (α:=Value) Try.prog .i64 (sn : Int) sn .index w
   refine ⟨v,w',?_,h2⟩
   rw [← h1]
   simp [Instr.indexAt,run_underlying Try.underlying32,asIntOf]
 | none =>
   obtain ⟨v,w',h1,h2⟩:=bp_norm (α:=Value) Try.prog .i64 (sn : Int) 0 .index w
   refine ⟨v,w',?_,h2⟩
   rw [← h1]
   simp [Instr.indexAt,run_underlying Try.underlying32,asIntOf]
section
variable {C : Cw} {E : Env} {V : World} {D : Th} {i : Nat} {T : Array Value} {kt : List Item} {Stop : Goroutine → World → Prop} {cs0 : List Frame} {c : Frame}
theorem th_panic (hn : norm V = V) {sb : Option Addr} {sn sc : Nat} (hw : V.heap[D.wp]? = some (.cells #[.slice sb sn sc,.bool false] 37 (0,0))) (hb : V.heap[D.wb i]? = some (.cells #[.pointer (some ⟨D.wp,0,none⟩)] 29 (0,0))) (hT : HTh D C i T) (hc : c.mode = .run)
   (KP : ∀ v,Will Try.prog false E.Z Stop (G { c with mode:=.panicking [{ v:=v,recovered:=false }] } cs0) V) : Will Try.prog false E.Z Stop (G ((base 107).at ⟨T,[]⟩ (.code R14t :: kt)) (c :: cs0)) V:=by
 have e1 : ∀ τ,(re V τ 0).cell? ⟨D.wb i,0,none⟩ = some (.pointer (some ⟨D.wp,0,none⟩)):=fun τ=>cell_of hb (by simp)
 have e2 : ∀ τ,(re V τ 0).cell? ⟨D.wp,0,none⟩ = some (.slice sb sn sc):=fun τ=>cell_of hw (by simp)
 have q2 : ¬ ((sn : Int) < 0):=by omega
 obtain ⟨h74,t0,t1,t2,t3⟩:=hT
 obtain ⟨v0,v1,v2,v3,v4,v5,v6,v7,v8,v9,v10,v11,v12,v13,v14,v15,v16,v17,v18,v19,v20,v21,v22,v23,v24,v25,v26,v27,v28,v29,v30,v31,v32,v33,v34,v35,v36,v37,v38,v39,v40,v41,v42,v43,v44,v45,v46,v47,v48,v49,v50,v51,v52,v53,v54,v55,v56,v57,v58,v59,v60,v61,v62,v63,v64,v65,v66,v67,v68,v69,v70,v71,v72,v73,rfl⟩:=array74 T h74
 simp only [List.getElem?_toArray,List.getElem?_cons_zero,List.getElem?_cons_succ,Option.some.injEq,Cw.tp,bp] at t0 t1 t2 t3
 subst t0 t1 t2 t3
 refine (fun (h : ∀ X,X = R14t → Will Try.prog false E.Z Stop (G ((base 107).at ⟨_,[]⟩ (.code X :: kt)) (c :: cs0)) V)=>h R14t rfl) ?_
 intro X hX
 simp only [R14t,E4t,E3t,E2t,E1t,SWt,BBt,LT,B107,nct,nce,nva,nvb,nvk,nvl,Try.f107,Option.getD_some] at hX
 subst hX
 obtain ⟨K,eK⟩ : ∃ K : Goroutine → Prop,K = fun g=>Will Try.prog false E.Z Stop g V:=⟨_,rfl⟩
 have hK : Mu Try.prog (fun _=>True) K:=by rw [eK]; exact mu_will
 have hV : MuV Try.prog Lone V K:=by rw [eK]; exact muv_will hn
 have hD : MuD Try.prog K:=by rw [eK]; exact mud_will
 have KP' : ∀ v,K (G { c with mode:=.panicking [{ v:=v,recovered:=false }] } cs0):=fun v=>by rw [eK]; exact KP v
 have key : ∀ g,K g → Will Try.prog false E.Z Stop g V:=fun g h=>by rw [eK] at h; exact h
 refine key _ ?_
 have eK' : RowKit.Hid (K = fun g=>Will Try.prog false E.Z Stop g V):=Lib.hid eK
 have key2 : RowKit.Hid (∀ g,K g → Will Try.prog false E.Z Stop g V):=Lib.hid key
 clear key eK KP
 refine mu_draw 10 hK hV hD (.inl rfl) (by kernel_rfl) ?_
 simp only [List.size_toArray,List.length_cons,List.length_nil,Nat.reduceAdd,Nat.zero_add,Array.replicate_succ,Array.replicate_zero,List.push_toArray,List.nil_append,List.cons_append]
 refine anyP_J (i:=0) 12 rfl (by kernel_rfl) rfl (by kernel_rfl) (by kernel_rfl) (by kernel_rfl) (by kernel_rfl) rfl (by kernel_rfl) (fun J hJ=>?_)
 go_simp
 with_reducible refine hJ _ ?_
 clear hJ J
 walk_nrm
 refine anyP_J (i:=1) 12 rfl (by kernel_rfl) rfl (by kernel_rfl) (by kernel_rfl) (by kernel_rfl) (by kernel_rfl) rfl (by kernel_rfl) (fun J hJ=>?_)
 go_simp
 with_reducible refine hJ _ ?_
 clear hJ J
 walk_nrm
 refine anyP_J (i:=2) 12 rfl (by kernel_rfl) rfl (by kernel_rfl) (by kernel_rfl) (by kernel_rfl) (by kernel_rfl) rfl (by kernel_rfl) (fun J hJ=>?_)
 go_simp
 with_reducible refine hJ _ ?_
 clear hJ J
 walk_nrm
 refine anyP_J (i:=3) 12 rfl (by kernel_rfl) rfl (by kernel_rfl) (by kernel_rfl) (by kernel_rfl) (by kernel_rfl) rfl (by kernel_rfl) (fun J hJ=>?_)
 go_simp
 with_reducible refine hJ _ ?_
 clear hJ J
 walk_nrm
 refine anyP_J (i:=4) 12 rfl (by kernel_rfl) rfl (by kernel_rfl) (by kernel_rfl) (by kernel_rfl) (by kernel_rfl) rfl (by kernel_rfl) (fun J hJ=>?_)
 go_simp
 with_reducible refine hJ _ ?_
 clear hJ J
 walk_nrm
 refine anyP_J (i:=5) 12 rfl (by kernel_rfl) rfl (by kernel_rfl) (by kernel_rfl) (by kernel_rfl) (by kernel_rfl) rfl (by kernel_rfl) (fun J hJ=>?_)
 go_simp
 with_reducible refine hJ _ ?_
 clear hJ J
 walk_nrm
 refine anyP_J (i:=6) 12 rfl (by kernel_rfl) rfl (by kernel_rfl) (by kernel_rfl) (by kernel_rfl) (by kernel_rfl) rfl (by kernel_rfl) (fun J hJ=>?_)
 go_simp
 with_reducible refine hJ _ ?_
 clear hJ J
 walk_nrm
 refine anyP_J (i:=7) 12 rfl (by kernel_rfl) rfl (by kernel_rfl) (by kernel_rfl) (by kernel_rfl) (by kernel_rfl) rfl (by kernel_rfl) (fun J hJ=>?_)
 go_simp
 with_reducible refine hJ _ ?_
 clear hJ J
 walk_nrm
 refine anyP_J (i:=8) 12 rfl (by kernel_rfl) rfl (by kernel_rfl) (by kernel_rfl) (by kernel_rfl) (by kernel_rfl) rfl (by kernel_rfl) (fun J hJ=>?_)
 go_simp
 with_reducible refine hJ _ ?_
 clear hJ J
 walk_nrm
 refine anyP_J (i:=9) 12 rfl (by kernel_rfl) rfl (by kernel_rfl) (by kernel_rfl) (by kernel_rfl) (by kernel_rfl) rfl (by kernel_rfl) (fun J hJ=>?_)
 go_simp
 with_reducible refine hJ _ ?_
 clear hJ J
 walk_nrm
 refine anyP_last (by kernel_rfl) (fun t=>?_)
 focus
   rw [show K = _ from eK']
   refine will_oper (L:=Lone) rfl rfl rfl (by kernel_rfl) (fun τ=>?_)
   obtain ⟨v,w',h1,h2⟩:=idx_out sb sn sc (re V τ 0)
   go_simp
   show Will Try.prog false E.Z Stop _ (norm w')
   rw [h2,show norm (re V τ 0) = V from hn]
   refine (show ∀ g,K g → Will Try.prog false E.Z Stop g V from key2) _ ?_
   exact mu_pop hK ⟨_,Try.func107⟩ rfl rfl hc (KP' v)
end
end Go.Proofs.Ytibcdikfbhmheaa

namespace Go.Proofs.Ytibcdikfbhmheaa
open Go Go.Conc Go.Proofs
open Go.ConcN (sumTo upd sumTo_upd upd_ne upd_same)
set_option linter.unusedVariables false
structure TMid (D : Th) (C : Cw) (i : Nat) (own₀ : Nat → Prop) (V₀ : World) (s : TS) (own : Nat → Prop) (V : World) : Prop where
 nrm : norm V = V
 big : V₀.heap.size ≤ V.heap.size
 keep : ∀ b,b < V₀.heap.size → ¬ own₀ b → (∀ j,j < C.n → b ≠ C.tb j) → V.heap[b]? = V₀.heap[b]?
 inv : TInv D s own V
 owned : ∀ b,own b → (own₀ b ∨ V₀.heap.size ≤ b) ∧ b < V.heap.size
 cw : CwAt C false (upd (fun j=>cl (s.st j)) i 1) V
 ap : ∀ b,own b → b ≠ C.cb ∧ (∀ j,j < C.n → b ≠ C.tb j) ∧ b ≠ C.lb
 ls : LsV C V
theorem wake_upd {n : Nat} {st : Nat → Int} {i : Nat} {x : Int} (h : st i ≠ 2) : wake n (upd st i 1) x = upd (wake n st x) i 1 ∧ wake n st x i = st i:=by
 unfold wake
 by_cases e : x.toNat = i
 · rw [e,upd_same]
   rw [if_neg (by omega),if_neg (fun hh=>h hh.2.2)]
   exact ⟨rfl,rfl⟩
 · rw [upd_ne _ _ e]
   by_cases hc : 0 ≤ x ∧ x < n ∧ st x.toNat = 2
   · rw [if_pos hc,if_pos hc]
     refine ⟨?_,upd_ne _ _ (Ne.symm e)⟩
     funext j
     by_cases e1 : j = i
     · subst e1; rw [upd_same,upd_ne _ _ (Ne.symm e),upd_same]
     · rw [upd_ne (upd st x.toNat 1) 1 e1]
       by_cases e2 : j = x.toNat
       · subst e2; rw [upd_same,upd_same]
       · rw [upd_ne _ _ e2,upd_ne _ _ e2,upd_ne _ _ e1]
   · rw [if_neg hc,if_neg hc]
     exact ⟨rfl,rfl⟩
theorem slice_of2 {V : World} {e : TypeId} {k : Nat} {v : Value} {n : Nat} {xs : List Value} (h : V.ownsRow 0 e k v n xs) : ∃ b m c,v = .slice b m c:=by
 obtain ⟨_,h2⟩:=h
 rcases h2 with ⟨rfl,_⟩ | ⟨g,cap,cur,rfl,_⟩
 · exact ⟨_,_,_,rfl⟩
 · exact ⟨_,_,_,rfl⟩
theorem TInv.st {D : Th} {s s' : TS} {own : Nat → Prop} {V : World} (I : TInv D s own V) (h1 : s'.log = s.log) (h2 : s'.at_ = s.at_) (h3 : ∀ j,s'.st j = 0 → s.st j = 0) : TInv D s' own V:=⟨I.sz,by rw [h1]; exact I.world,I.old,by rw [h1,h2]; exact I.cnt,by rw [h2]; exact I.le,fun j hj h=>by rw [h2]; exact I.z j hj (h3 j h)⟩
section
variable {D : Th} {C : Cw} {E : Env} {i : Nat} {own₀ own : Nat → Prop} {V₀ V : World} {s : TS}
theorem mid_note {W : World} {p : Nat} {lv v' : Value} (O : ThOk D) (hi : i < D.n) (hiC : i < C.n) (M : TMid D C i own₀ V₀ s own V) (hat : s.at_ i = p) (h0 : s.st i ≠ 0) (hp : p < (D.acts i).length) (hw : V.heap[D.wp]? = some (.cells #[lv,.bool false] 37 (0,0))) (hlv : ∀ b,lv.ownBlock = some b → own b ∧ D.Vr.heap.size ≤ b)
   (A : ApN V W lv v' (s.log.length + 1) (notes s.log ++ [.int .i64 (i : Int),.int .i64 (p : Int)])) : TMid D C i own₀ V₀ (s.note i p) (fun b=>own b ∨ v'.ownBlock = some b) (W.setCell ⟨D.wp,0,none⟩ v'):=by
 have I:=M.inv
 have hwpo:=(I.old D.wp O.wp).1
 have hwpl : D.wp < V.heap.size:=(M.owned _ hwpo).2
 have hlw : lv.ownBlock ≠ some D.wp:=fun e=>by have:=(hlv _ e).2; have:=O.wp; omega
 have hcb : C.cb < V.heap.size:=(Array.getElem?_eq_some_iff.1 M.cw.crew).1
 have htb : ∀ j,j < C.n → C.tb j < V.heap.size:=fun j hj=>(Array.getElem?_eq_some_iff.1 (M.cw.thr j hj)).1
 have hlb : C.lb < V.heap.size:=cell_lt (M.ls.at_ i hiC)
 have hget : ∀ b,b ≠ D.wp → (W.setCell ⟨D.wp,0,none⟩ v').heap[b]? = W.heap[b]?:=fun b hb=>by rw [setCell_heap,if_neg hb]
 have hkeep : ∀ b,b < V.heap.size → ¬ own b → (W.setCell ⟨D.wp,0,none⟩ v').heap[b]? = V.heap[b]?:=fun b hb ho=>by
   rw [hget b (fun e=>ho (by rw [e]; exact hwpo))]
   exact A.keep b hb (fun e=>ho (hlv _ e).1)
 have hnb : ∀ b,v'.ownBlock = some b → b ≠ D.wp:=fun b hb e=>by
   rcases A.new b hb with h | ⟨h,_⟩
   · exact hlw (by rw [← e]; exact h)
   · omega
 have hsum : sumTo D.n (upd s.at_ i (p + 1)) = sumTo D.n s.at_ + 1:=by
   have h : sumTo D.n (upd s.at_ i (p + 1)) + s.at_ i = sumTo D.n s.at_ + (p + 1):=sumTo_upd s.at_ (p + 1) id hi
   rw [hat] at h
   omega
 refine ⟨norm_set A.nrm _ _,by rw [size_setCell]; have:=A.big; have:=M.big; omega,fun b hb ho ht=>?_,⟨by rw [size_setCell]; have:=A.big; have:=I.sz; omega,⟨v',?_,?_,fun b hb=>⟨.inr hb,?_⟩⟩,fun b hb=>⟨.inl (I.old b hb).1,fun hne=>?_⟩,?_,fun j hj=>?_,fun j hj h=>?_⟩,fun b hb=>?_,?_,fun b hb=>?_,M.ls.keep ?_⟩
 · have hno : ¬ own b:=fun h=>by
     rcases (M.owned b h).1 with h1 | h1
     · exact ho h1
     · omega
   rw [hkeep b (by have:=M.big; omega) hno]
   exact M.keep b hb ho ht
 · rw [setCell_heap,if_pos rfl,A.keep _ hwpl hlw,hw]
   simp
 · have hr:=row_keep A.row fun b hb=>hget b (hnb b hb)
   have e1 : (s.note i p).log.length = s.log.length + 1:=by simp [TS.note]
   have e2 : notes (s.note i p).log = notes s.log ++ [.int .i64 (i : Int),.int .i64 (p : Int)]:=by simp [TS.note,notes]
   rw [e1,e2]
   exact hr
 · rcases A.new b hb with h | ⟨h,_⟩
   · exact (hlv _ h).2
   · have:=I.sz; omega
 · rw [hget b hne,A.keep b (by have:=I.sz; omega) (fun e=>by have:=(hlv _ e).2; omega)]
   exact (I.old b hb).2 hne
 · show (s.log ++ [(i,p)]).length = sumTo D.n (upd s.at_ i (p + 1))
   rw [List.length_append,hsum,I.cnt]
   rfl
 · show upd s.at_ i (p + 1) j ≤ _
   by_cases e : j = i
   · subst e; rw [upd_same]; omega
   · rw [upd_ne _ _ e]; exact I.le j hj
 · show upd s.at_ i (p + 1) j = 0
   have hji : j ≠ i:=fun e=>by subst e; exact h0 h
   rw [upd_ne _ _ hji]
   exact I.z j hj h
 · rw [size_setCell]
   rcases hb with hb | hb
   · have h1:=M.owned b hb
     have h2:=A.big
     exact ⟨h1.1,by omega⟩
   · rcases A.new b hb with h | ⟨h1,h2⟩
     · have h3:=M.owned b (hlv _ h).1
       have h4:=A.big
       exact ⟨h3.1,by omega⟩
     · have:=M.big
       exact ⟨.inr (by omega),h2⟩
 · exact M.cw.keep (hkeep _ hcb (fun h=>(M.ap _ h).1 rfl)) fun j hj=>hkeep _ (htb j hj) (fun h=>(M.ap _ h).2.1 j hj rfl)
 · rcases hb with hb | hb
   · exact M.ap b hb
   · rcases A.new b hb with h | ⟨h1,h2⟩
     · exact M.ap b (hlv _ h).1
     · exact ⟨by omega,fun j hj e=>by have:=htb j hj; omega,by omega⟩
 · exact hkeep _ hlb (fun h=>(M.ap _ h).2.2 rfl)
theorem mid_wake {V' : World} {x : Int} (hnC : C.n = D.n) (M : TMid D C i own₀ V₀ s own V) (h2 : s.st i ≠ 2) (hn : norm V' = V') (hsz : V'.heap.size = V.heap.size) (hk : ∀ b,(∀ j,j < C.n → b ≠ C.tb j) → V'.heap[b]? = V.heap[b]?) (H : CwAt C false (wake C.n (upd (fun j=>cl (s.st j)) i 1) x) V') :
   TMid D C i own₀ V₀ { s with st:=wake D.n s.st x } own V':=by
 have I:=M.inv
 have hko : ∀ b,own b → V'.heap[b]? = V.heap[b]?:=fun b hb=>hk b (M.ap b hb).2.1
 obtain ⟨lv,hw,hrow,hlv⟩:=I.world
 refine ⟨hn,by rw [hsz]; exact M.big,fun b hb ho ht=>by rw [hk b ht]; exact M.keep b hb ho ht,⟨by rw [hsz]; exact I.sz,⟨lv,?_,row_keep hrow fun b hb=>hko b (hlv b hb).1,hlv⟩,fun b hb=>⟨(I.old b hb).1,fun hne=>by rw [hko b (I.old b hb).1]; exact (I.old b hb).2 hne⟩,I.cnt,I.le,fun j hj h=>I.z j hj (by
   have h : wake D.n s.st x j = 0:=h
   unfold wake at h
   split at h
   · rename_i hc
     by_cases e : j = x.toNat
     · subst e; rw [upd_same] at h; cases h
     · rwa [upd_ne _ _ e] at h
   · exact h)⟩,fun b hb=>by rw [hsz]; exact M.owned b hb,?_,M.ap,M.ls.keep (hk _ M.ls.ne)⟩
 · by_cases hwo : own D.wp
   · rw [hko _ hwo]; exact hw
   · rw [hk D.wp fun j hj e=>?_]; exact hw
     have:=M.cw.thr j hj
     rw [← e,hw] at this
     simp at this
 · rw [hnC,(wake_upd (st:=fun j=>cl (s.st j)) (fun h=>h2 ((cl_two _).1 h))).1,← cl_wake] at H
   exact H
theorem tend {σ F : TS} {Rf : Frame} {g : Goroutine} (M : TMid D C i own₀ V₀ s own V) (hF : (Uth D C).turn σ i = F) (hl : F.log = s.log) (ha : F.at_ = s.at_) (hs : ∀ j,j ≠ i → F.st j = s.st j)
   (h : (F.st i = 1 ∧ (∃ fr cs,g = G (Frame.enter Try.prog 24 #[C.tp i] .normal) (fr :: cs ++ [Rf,rootF]) ∧ (Uth D C).loc F i (fr :: cs))) ∨
    (F.st i = 2 ∧ (∃ fr cs,g = G (Frame.enter Try.prog 25 #[C.tp i] .normal) (fr :: cs ++ [Rf,rootF]) ∧ (Uth D C).loc F i (fr :: cs))) ∨
    (F.st i = 3 ∧ ((∃ v a ops i₀ rest k,Rf = (baseD 141).at a (.inRegion ops (i₀ :: rest) :: k) ∧ g = G ((baseD 141).at (a.put ((ops[i₀]?).bind (·.dst)) v) (.inRegion ops rest :: k)) [rootF]) ∨ ∃ v,g = G { Rf with mode:=.panicking [{ v:=v,recovered:=false }] } [rootF]))) :
   TEnd C (Uth D C) σ i own₀ V₀ Rf g V:=by
 subst hF
 refine ⟨M.nrm,M.big,M.keep,⟨own,M.inv.st hl ha fun j hj=>?_,M.owned⟩,?_,?_⟩
 · by_cases e : j = i
   · subst e
     rcases h with ⟨h,_⟩ | ⟨h,_⟩ | ⟨h,_⟩ <;> (rw [h] at hj; cases hj)
   · rw [← hs j e]; exact hj
 · have e : upd ((Uth D C).st ((Uth D C).turn σ i)) i 1 = upd (fun j=>cl (s.st j)) i 1:=by
     funext j
     by_cases e : j = i
     · subst e; rw [upd_same,upd_same]
     · rw [upd_ne _ _ e,upd_ne _ _ e]
       show cl _ = cl _
       rw [hs j e]
   rw [e]
   exact M.cw
 · rcases h with ⟨h,k⟩ | ⟨h,k⟩ | ⟨h,k⟩
   · exact .inl ⟨(cl_one _).2 h,k⟩
   · exact .inr (.inl ⟨(cl_two _).2 h,k⟩)
   · exact .inr (.inr ⟨by show cl _ = 3; rw [h]; rfl,k⟩)
theorem set_upd (s : TS) (i : Nat) (x : Int) : ∀ j,j ≠ i → (s.set i x).st j = s.st j:=fun j hj=>upd_ne _ _ hj
theorem th_loop (O : ThOk D) (hO : CwOk E C) (hnC : C.n = D.n) (hn64 : C.n ≤ 64) (hi : i < D.n) {σ : TS} {a₁ : Act} {ops₁ : Array Oper} {i₁ : Nat} {rest₁ : List Nat} {k₁ : List Item} :
   ∀ (r : List (Int × Int)) (p : Nat) (s : TS) (own : Nat → Prop) (V : World) (T : Array Value),r = (D.acts i).drop p → s.at_ i = p → s.st i ≠ 2 ∧ s.st i ≠ 0 → (Uth D C).turn σ i = tgo D.n i r p s → TMid D C i own₀ V₀ s own V → HTh D C i T → T[5]? = some (.int .i64 (p : Int)) →
     Will Try.prog false E.Z (TEnd C (Uth D C) σ i own₀ V₀ ((baseD 141).at a₁ (.inRegion ops₁ (i₁ :: rest₁) :: k₁))) (G ((base 107).at ⟨T,[]⟩ [.code LT,.inLoop LT,.inBlock 0]) [(baseD 141).at a₁ (.inRegion ops₁ (i₁ :: rest₁) :: k₁),rootF]) V:=by
 have hiC : i < C.n:=by omega
 obtain ⟨bl1,bl2,bl3⟩:=O.lb i hi
 have hsm:=O.small
 intro r
 induction r with
 | nil =>
   intro p s own V T hr hat h2 hF M ⟨h74,t0,t1,t2,t3⟩ t5
   have hpl : p = (D.acts i).length:=by
     have h1:=M.inv.le i hi
     have h3 : (D.acts i).length ≤ p:=List.drop_eq_nil_iff.1 hr.symm
     omega
   have hn:=M.nrm
   have q1 : decide ((p : Int) < ((D.acts i).length : Int)) = false:=decide_eq_false (by omega)
   have d1 : ∀ τ,(re V τ 0).cell? ⟨D.lb i,0,none⟩ = some (.slice (D.la i) (D.acts i).length (D.lc i)):=fun τ=>cell_of (((M.inv.old _ bl1).2 bl2).trans bl3) (by simp)
   have KE : ∀ v,Will Try.prog false E.Z (TEnd C (Uth D C) σ i own₀ V₀ ((baseD 141).at a₁ (.inRegion ops₁ (i₁ :: rest₁) :: k₁))) (G ((baseD 141).at (a₁.put ((ops₁[i₁]?).bind (·.dst)) v) (.inRegion ops₁ rest₁ :: k₁)) [rootF]) V:=fun v=>Will.stop (tend M hF rfl rfl (set_upd s i 3) (.inr (.inr ⟨upd_same _ _ _,.inl ⟨v,a₁,ops₁,i₁,rest₁,k₁,rfl,rfl⟩⟩)))
   clear M hF hat hr hsm
   obtain ⟨v0,v1,v2,v3,v4,v5,v6,v7,v8,v9,v10,v11,v12,v13,v14,v15,v16,v17,v18,v19,v20,v21,v22,v23,v24,v25,v26,v27,v28,v29,v30,v31,v32,v33,v34,v35,v36,v37,v38,v39,v40,v41,v42,v43,v44,v45,v46,v47,v48,v49,v50,v51,v52,v53,v54,v55,v56,v57,v58,v59,v60,v61,v62,v63,v64,v65,v66,v67,v68,v69,v70,v71,v72,v73,rfl⟩:=array74 T h74
   simp only [List.getElem?_toArray,List.getElem?_cons_zero,List.getElem?_cons_succ,Option.some.injEq,Cw.tp,bp] at t0 t1 t2 t3 t5
   subst t0 t1 t2 t3 t5
   refine (fun (h : ∀ X,X = LT → Will Try.prog false E.Z (TEnd C (Uth D C) σ i own₀ V₀ ((baseD 141).at a₁ (.inRegion ops₁ (i₁ :: rest₁) :: k₁))) (G ((base 107).at ⟨_,[]⟩ [.code X,.inLoop LT,.inBlock 0]) [(baseD 141).at a₁ (.inRegion ops₁ (i₁ :: rest₁) :: k₁),rootF]) V)=>h LT rfl) ?_
   intro X hX
   simp only [kt0,ops7t,ops9t,rops,SWt,R3t,R4t,T5t,BBt,LT,B107,nct,nce,nva,nvb,nvk,nvl,Try.f107,Option.getD_some] at hX
   subst hX
   obtain ⟨K,hK,hV,key,yek⟩:=kKV (L:=Lone) (J:=fun g=>Will Try.prog false E.Z (TEnd C (Uth D C) σ i own₀ V₀ ((baseD 141).at a₁ (.inRegion ops₁ (i₁ :: rest₁) :: k₁))) g V) mu_will (muv_will hn)
   refine key _ ?_
   repeat (first|(with_reducible first|refine mu_seq hK ?_|refine mu_skip hK ?_|(refine mu_region_end hK ?_;try subst hkk)|refine mu_block hK ?_|refine mu_inBlock hK ?_|refine mu_ret hK ?_|refine mu_end hK ?_)|refine mu_exit hK rfl ?_|(with_reducible refine mu_regionH hK (fun kk hkk=>?_); simp only [List.size_toArray,List.length_cons,List.length_nil,Nat.reduceAdd,Nat.zero_add,List.range,List.range.loop])|(with_reducible refine mu_cf hK ?_ ?_;(· first | (walk_nrm; done) | (simp [Act.eval]; done)))|(with_reducible refine mu_ct hK ?_ ?_;(· first | (walk_nrm; done) | (simp [Act.eval]; done)))|(refine mu_unwanted hK rfl rfl ?_; walk_nrm)|(refine muv_val hV rfl (by first | exact .inl rfl | exact .inr rfl) rfl (by kernel_rfl) (fun J hJ=>?_); go_simp; with_reducible refine hJ _ ?_; clear hJ J; walk_nrm))
   refine mu_leave0 hK rfl rfl Try.func107 rfl ?_
   refine yek _ ?_
   clear hK hV key yek K
   exact KE _
 | cons a r ih =>
   intro p s own V T hr hat h2 hF M ⟨h74,t0,t1,t2,t3⟩ t5
   have hp : p < (D.acts i).length:=by
     apply Nat.lt_of_not_le
     intro hge
     rw [List.drop_eq_nil_of_le hge] at hr
     cases hr
   have hcons : (D.acts i).drop p = (D.acts i)[p]'hp :: (D.acts i).drop (p + 1):=List.drop_eq_getElem_cons hp
   obtain ⟨ha,hr'⟩:=List.cons.inj (hr.trans hcons)
   obtain ⟨g,o,hla,hg1,hg2,hgc⟩:=O.row i hi (by omega)
   obtain ⟨hc1,hc2⟩:=hgc p hp
   rw [← ha] at hc1 hc2
   obtain ⟨d,x⟩:=a
   simp only at hc1 hc2
   have hn:=M.nrm
   have hlenlt:=O.len i hi
   have q1 : decide ((p : Int) < ((D.acts i).length : Int)) = true:=decide_eq_true (by omega)
   have d1 : ∀ τ,(re V τ 0).cell? ⟨D.lb i,0,none⟩ = some (.slice (D.la i) (D.acts i).length (D.lc i)):=fun τ=>cell_of (((M.inv.old _ bl1).2 bl2).trans bl3) (by simp)
   have hlog : s.log.length < 1000000000:=by
     rw [M.inv.cnt]
     have:=sum_le_of (n:=D.n) fun y hy=>M.inv.le y hy
     omega
   obtain ⟨v0,v1,v2,v3,v4,v5,v6,v7,v8,v9,v10,v11,v12,v13,v14,v15,v16,v17,v18,v19,v20,v21,v22,v23,v24,v25,v26,v27,v28,v29,v30,v31,v32,v33,v34,v35,v36,v37,v38,v39,v40,v41,v42,v43,v44,v45,v46,v47,v48,v49,v50,v51,v52,v53,v54,v55,v56,v57,v58,v59,v60,v61,v62,v63,v64,v65,v66,v67,v68,v69,v70,v71,v72,v73,rfl⟩:=array74 T h74
   simp only [List.getElem?_toArray,List.getElem?_cons_zero,List.getElem?_cons_succ,Option.some.injEq] at t0 t1 t2 t3 t5
   subst t0 t1 t2 t3 t5
   clear hcons ha hgc hsm
   refine (fun (h : ∀ X,X = LT → Will Try.prog false E.Z (TEnd C (Uth D C) σ i own₀ V₀ ((baseD 141).at a₁ (.inRegion ops₁ (i₁ :: rest₁) :: k₁))) (G ((base 107).at ⟨_,[]⟩ [.code X,.inLoop LT,.inBlock 0]) [(baseD 141).at a₁ (.inRegion ops₁ (i₁ :: rest₁) :: k₁),rootF]) V)=>h LT rfl) ?_
   intro X hX
   simp only [kt0,ops7t,ops9t,rops,SWt,R3t,R4t,T5t,BBt,LT,B107,nct,nce,nva,nvb,nvk,nvl,Try.f107,Option.getD_some] at hX
   subst hX
   simp only [Cw.tp,bp]
   obtain ⟨K,hK,hV,key,yek⟩:=kKV (L:=Lone) (J:=fun g=>Will Try.prog false E.Z (TEnd C (Uth D C) σ i own₀ V₀ ((baseD 141).at a₁ (.inRegion ops₁ (i₁ :: rest₁) :: k₁))) g V) mu_will (muv_will hn)
   refine key _ ?_
   repeat (first|(with_reducible first|refine mu_seq hK ?_|refine mu_skip hK ?_|(refine mu_region_end hK ?_;try subst hkk)|refine mu_block hK ?_|refine mu_inBlock hK ?_|refine mu_ret hK ?_|refine mu_end hK ?_)|refine mu_exit hK rfl ?_|(with_reducible refine mu_regionH hK (fun kk hkk=>?_); simp only [List.size_toArray,List.length_cons,List.length_nil,Nat.reduceAdd,Nat.zero_add,List.range,List.range.loop])|(with_reducible refine mu_cf hK ?_ ?_;(· first | (walk_nrm; done) | (simp [Act.eval]; done)))|(with_reducible refine mu_ct hK ?_ ?_;(· first | (walk_nrm; done) | (simp [Act.eval]; done)))|(refine mu_unwanted hK rfl rfl ?_; walk_nrm)|(refine muv_val hV rfl (by first | exact .inl rfl | exact .inr rfl) rfl (by kernel_rfl) (fun J hJ=>?_); go_simp; with_reducible refine hJ _ ?_; clear hJ J; walk_nrm))
   refine yek _ ?_
   clear hK hV key yek K
   refine (fun (h : ∀ X W5 Y,R4t = X → T5t = W5 → R3t = Y → Will Try.prog false E.Z (TEnd C (Uth D C) σ i own₀ V₀ ((baseD 141).at a₁ (.inRegion ops₁ (i₁ :: rest₁) :: k₁))) (G ((base 107).at _ (.code X :: [.code W5,.inBlock 1,.code Y,.inLoop LT,.inBlock 0])) [(baseD 141).at a₁ (.inRegion ops₁ (i₁ :: rest₁) :: k₁),rootF]) V)=>h _ _ _ (by simp only [kt0,ops7t,ops9t,rops,SWt,R3t,R4t,T5t,BBt,LT,B107,nct,nce,nva,nvb,nvk,nvl,Try.f107,Option.getD_some]) (by simp only [kt0,ops7t,ops9t,rops,SWt,R3t,R4t,T5t,BBt,LT,B107,nct,nce,nva,nvb,nvk,nvl,Try.f107,Option.getD_some]) (by simp only [kt0,ops7t,ops9t,rops,SWt,R3t,R4t,T5t,BBt,LT,B107,nct,nce,nva,nvb,nvk,nvl,Try.f107,Option.getD_some])) ?_
   intro X W5 Y hX hW5 hY
   subst hX hW5 hY
   refine th_r4 (p:=p) O hn M.inv hi hlog ⟨by simp,rfl,rfl,rfl,rfl⟩ rfl fun T' lv v' W hw hlv A hT' t5'=>?_
   have M2:=mid_note O hi hiC M hat h2.2 hp hw hlv A
   generalize W.setCell ⟨D.wp,0,none⟩ v' = V2 at *
   generalize (fun b=>own b ∨ v'.ownBlock = some b) = own2 at *
   have h22 : (s.note i p).st i ≠ 2:=h2.1
   have h20 : (s.note i p).st i ≠ 0:=h2.2
   clear M hw hlv A h2 d1 hn
   have hn2:=M2.nrm
   have d1 : ∀ τ,(re V2 τ 0).cell? ⟨D.lb i,0,none⟩ = some (.slice (some ⟨g,o,none⟩) (D.acts i).length (D.lc i)):=fun τ=>by rw [← hla]; exact cell_of (((M2.inv.old _ bl1).2 bl2).trans bl3) (by simp)
   have hgV:=(M2.inv.old g hg1).2 hg2
   have d2 : ∀ τ,(re V2 τ 0).cell? ⟨g,o + p * 2,none⟩ = some (.int .i64 d):=fun τ=>cell_same hc1 hgV
   have d3 : ∀ τ,(re V2 τ 0).cell? ⟨g,o + p * 2 + 1,none⟩ = some (.int .i64 x):=fun τ=>cell_same hc2 hgV
   have q2 : ¬ ((p : Int) < 0):=by omega
   have q3 : ¬ (((D.acts i).length : Int) ≤ (p : Int)):=by omega
   have w4 : IntKind.i64.wrap ((p : Int) + 1) = ((p + 1 : Nat) : Int):=by rw [IntKind.wrap_i64]; omega
   obtain ⟨h74,t0,t1,t2,t3⟩:=hT'
   obtain ⟨v0,v1,v2,v3,v4,v5,v6,v7,v8,v9,v10,v11,v12,v13,v14,v15,v16,v17,v18,v19,v20,v21,v22,v23,v24,v25,v26,v27,v28,v29,v30,v31,v32,v33,v34,v35,v36,v37,v38,v39,v40,v41,v42,v43,v44,v45,v46,v47,v48,v49,v50,v51,v52,v53,v54,v55,v56,v57,v58,v59,v60,v61,v62,v63,v64,v65,v66,v67,v68,v69,v70,v71,v72,v73,rfl⟩:=array74 T' h74
   simp only [List.getElem?_toArray,List.getElem?_cons_zero,List.getElem?_cons_succ,Option.some.injEq,Cw.tp,bp] at t0 t1 t2 t3 t5'
   subst t0 t1 t2 t3 t5'
   refine (fun (h : ∀ X Y,X = T5t → Y = R3t → Will Try.prog false E.Z (TEnd C (Uth D C) σ i own₀ V₀ ((baseD 141).at a₁ (.inRegion ops₁ (i₁ :: rest₁) :: k₁))) (G ((base 107).at ⟨_,[]⟩ [.code X,.inBlock 1,.code Y,.inLoop LT,.inBlock 0]) [(baseD 141).at a₁ (.inRegion ops₁ (i₁ :: rest₁) :: k₁),rootF]) V2)=>h T5t R3t rfl rfl) ?_
   intro X Y hX hY
   simp only [kt0,ops7t,ops9t,rops,SWt,R3t,R4t,T5t,BBt,LT,B107,nct,nce,nva,nvb,nvk,nvl,Try.f107,Option.getD_some] at hX hY
   subst hX hY
   by_cases d0 : d = 0
   · have c0 : (d == 0) = true:=by simpa using d0
     have hF' : (Uth D C).turn σ i = (s.note i p).set i 1:=by rw [hF]; simp [tgo,d0]; try rfl
     obtain ⟨K,hK,hV,key,yek⟩:=kKV (L:=Lone) (J:=fun g=>Will Try.prog false E.Z (TEnd C (Uth D C) σ i own₀ V₀ ((baseD 141).at a₁ (.inRegion ops₁ (i₁ :: rest₁) :: k₁))) g V2) mu_will (muv_will hn2)
     refine key _ ?_
     repeat (first|(with_reducible first|refine mu_seq hK ?_|refine mu_skip hK ?_|(refine mu_region_end hK ?_;try subst hkk)|refine mu_block hK ?_|refine mu_inBlock hK ?_|refine mu_ret hK ?_|refine mu_end hK ?_)|refine mu_exit hK rfl ?_|(with_reducible refine mu_regionH hK (fun kk hkk=>?_); simp only [List.size_toArray,List.length_cons,List.length_nil,Nat.reduceAdd,Nat.zero_add,List.range,List.range.loop])|(with_reducible refine mu_cf hK ?_ ?_;(· first | (walk_nrm; done) | (simp [Act.eval]; done)))|(with_reducible refine mu_ct hK ?_ ?_;(· first | (walk_nrm; done) | (simp [Act.eval]; done)))|(refine mu_unwanted hK rfl rfl ?_; walk_nrm)|(refine muv_val hV rfl (by first | exact .inl rfl | exact .inr rfl) rfl (by kernel_rfl) (fun J hJ=>?_); go_simp; with_reducible refine hJ _ ?_; clear hJ J; walk_nrm))
     refine mu_call hK rfl rfl (by decide) rfl Try.func24 (by kernel_rfl) rfl ?_
     rw [← enter_at (P:=Try.prog) _ Try.func24 rfl]
     walk_nrm
     refine yek _ ?_
     clear hK hV key yek K
     refine Will.stop (tend M2 hF' rfl rfl (set_upd _ i 1) (.inl ⟨upd_same _ _ _,_,[],rfl,?_⟩))
     try subst hkk
     exact ⟨_,ops7t,p,upd_same _ _ _,.inl rfl,⟨by simp,rfl,rfl,rfl,rfl⟩,rfl,rfl⟩
   have c0 : (d == 0) = false:=by simpa using d0
   by_cases d1' : d = 1
   · have c1 : (d == 1) = true:=by simpa using d1'
     have hF' : (Uth D C).turn σ i = (s.note i p).set i 2:=by rw [hF]; simp [tgo,d0,d1']; try rfl
     obtain ⟨K,hK,hV,key,yek⟩:=kKV (L:=Lone) (J:=fun g=>Will Try.prog false E.Z (TEnd C (Uth D C) σ i own₀ V₀ ((baseD 141).at a₁ (.inRegion ops₁ (i₁ :: rest₁) :: k₁))) g V2) mu_will (muv_will hn2)
     refine key _ ?_
     repeat (first|(with_reducible first|refine mu_seq hK ?_|refine mu_skip hK ?_|(refine mu_region_end hK ?_;try subst hkk)|refine mu_block hK ?_|refine mu_inBlock hK ?_|refine mu_ret hK ?_|refine mu_end hK ?_)|refine mu_exit hK rfl ?_|(with_reducible refine mu_regionH hK (fun kk hkk=>?_); simp only [List.size_toArray,List.length_cons,List.length_nil,Nat.reduceAdd,Nat.zero_add,List.range,List.range.loop])|(with_reducible refine mu_cf hK ?_ ?_;(· first | (walk_nrm; done) | (simp [Act.eval]; done)))|(with_reducible refine mu_ct hK ?_ ?_;(· first | (walk_nrm; done) | (simp [Act.eval]; done)))|(refine mu_unwanted hK rfl rfl ?_; walk_nrm)|(refine muv_val hV rfl (by first | exact .inl rfl | exact .inr rfl) rfl (by kernel_rfl) (fun J hJ=>?_); go_simp; with_reducible refine hJ _ ?_; clear hJ J; walk_nrm))
     refine mu_call hK rfl rfl (by decide) rfl Try.func25 (by kernel_rfl) rfl ?_
     rw [← enter_at (P:=Try.prog) _ Try.func25 rfl]
     walk_nrm
     refine yek _ ?_
     clear hK hV key yek K
     refine Will.stop (tend M2 hF' rfl rfl (set_upd _ i 2) (.inr (.inl ⟨upd_same _ _ _,_,[],rfl,?_⟩)))
     try subst hkk
     exact ⟨_,ops9t,p,upd_same _ _ _,.inr rfl,⟨by simp,rfl,rfl,rfl,rfl⟩,rfl,rfl⟩
   have c1 : (d == 1) = false:=by simpa using d1'
   by_cases d2' : d = 2
   · have c2 : (d == 2) = true:=by simpa using d2'
     have hF' : (Uth D C).turn σ i = tgo D.n i r (p + 1) { s.note i p with st:=wake D.n (s.note i p).st x }:=by rw [hF]; simp [tgo,d2']; rfl
     obtain ⟨K,hK,hV,key,yek⟩:=kKV (L:=Lone) (J:=fun g=>Will Try.prog false E.Z (TEnd C (Uth D C) σ i own₀ V₀ ((baseD 141).at a₁ (.inRegion ops₁ (i₁ :: rest₁) :: k₁))) g V2) mu_will (muv_will hn2)
     refine key _ ?_
     repeat (first|(with_reducible first|refine mu_seq hK ?_|refine mu_skip hK ?_|(refine mu_region_end hK ?_;try subst hkk)|refine mu_block hK ?_|refine mu_inBlock hK ?_|refine mu_ret hK ?_|refine mu_end hK ?_)|refine mu_exit hK rfl ?_|(with_reducible refine mu_regionH hK (fun kk hkk=>?_); simp only [List.size_toArray,List.length_cons,List.length_nil,Nat.reduceAdd,Nat.zero_add,List.range,List.range.loop])|(with_reducible refine mu_cf hK ?_ ?_;(· first | (walk_nrm; done) | (simp [Act.eval]; done)))|(with_reducible refine mu_ct hK ?_ ?_;(· first | (walk_nrm; done) | (simp [Act.eval]; done)))|(refine mu_unwanted hK rfl rfl ?_; walk_nrm)|(refine muv_val hV rfl (by first | exact .inl rfl | exact .inr rfl) rfl (by kernel_rfl) (fun J hJ=>?_); go_simp; with_reducible refine hJ _ ?_; clear hJ J; walk_nrm))
     refine mu_call hK rfl rfl (by decide) rfl Try.func26 (by kernel_rfl) rfl ?_
     rw [← enter_at (P:=Try.prog) _ Try.func26 rfl]
     walk_nrm
     refine yek _ ?_
     clear hK hV key yek K
     refine wake_go hO hn64 hn2 M2.cw M2.ls hiC fun V3 hn3 hs3 hk3 H3=>?_
     have M3:=mid_wake hnC M2 h22 hn3 hs3 hk3 H3
     walk_nrm
     obtain ⟨K,hK,hV,key,yek⟩:=kKV (L:=Lone) (J:=fun g=>Will Try.prog false E.Z (TEnd C (Uth D C) σ i own₀ V₀ ((baseD 141).at a₁ (.inRegion ops₁ (i₁ :: rest₁) :: k₁))) g V3) mu_will (muv_will hn3)
     refine key _ ?_
     repeat (first|(with_reducible first|refine mu_seq hK ?_|refine mu_skip hK ?_|(refine mu_region_end hK ?_;try subst hkk)|refine mu_block hK ?_|refine mu_inBlock hK ?_|refine mu_ret hK ?_|refine mu_end hK ?_)|refine mu_exit hK rfl ?_|(with_reducible refine mu_regionH hK (fun kk hkk=>?_); simp only [List.size_toArray,List.length_cons,List.length_nil,Nat.reduceAdd,Nat.zero_add,List.range,List.range.loop])|(with_reducible refine mu_cf hK ?_ ?_;(· first | (walk_nrm; done) | (simp [Act.eval]; done)))|(with_reducible refine mu_ct hK ?_ ?_;(· first | (walk_nrm; done) | (simp [Act.eval]; done)))|(refine mu_unwanted hK rfl rfl ?_; walk_nrm)|(refine muv_val hV rfl (by first | exact .inl rfl | exact .inr rfl) rfl (by kernel_rfl) (fun J hJ=>?_); go_simp; with_reducible refine hJ _ ?_; clear hJ J; walk_nrm))
     refine mu_inLoop hK ?_
     refine yek _ ?_
     clear hK hV key yek K
     refine ih (p + 1) _ own2 V3 _ hr' (upd_same _ _ _) (by show wake D.n (s.note i p).st x i ≠ 2 ∧ wake D.n (s.note i p).st x i ≠ 0; rw [(wake_upd h22).2]; exact ⟨h22,h20⟩) hF' M3 ⟨by simp,rfl,rfl,rfl,rfl⟩ rfl
   have c2 : (d == 2) = false:=by simpa using d2'
   by_cases d4' : d = 4
   · have c4 : (d == 4) = true:=by simpa using d4'
     have hF' : (Uth D C).turn σ i = (s.note i p).set i 3:=by rw [hF]; simp [tgo,d4']; try rfl
     have KE : ∀ v,Will Try.prog false E.Z (TEnd C (Uth D C) σ i own₀ V₀ ((baseD 141).at a₁ (.inRegion ops₁ (i₁ :: rest₁) :: k₁))) (G ((baseD 141).at (a₁.put ((ops₁[i₁]?).bind (·.dst)) v) (.inRegion ops₁ rest₁ :: k₁)) [rootF]) V2:=fun v=>Will.stop (tend M2 hF' rfl rfl (set_upd _ i 3) (.inr (.inr ⟨upd_same _ _ _,.inl ⟨v,a₁,ops₁,i₁,rest₁,k₁,rfl,rfl⟩⟩)))
     obtain ⟨K,hK,hV,key,yek⟩:=kKV (L:=Lone) (J:=fun g=>Will Try.prog false E.Z (TEnd C (Uth D C) σ i own₀ V₀ ((baseD 141).at a₁ (.inRegion ops₁ (i₁ :: rest₁) :: k₁))) g V2) mu_will (muv_will hn2)
     refine key _ ?_
     repeat (first|(with_reducible first|refine mu_seq hK ?_|refine mu_skip hK ?_|(refine mu_region_end hK ?_;try subst hkk)|refine mu_block hK ?_|refine mu_inBlock hK ?_|refine mu_ret hK ?_|refine mu_end hK ?_)|refine mu_exit hK rfl ?_|(with_reducible refine mu_regionH hK (fun kk hkk=>?_); simp only [List.size_toArray,List.length_cons,List.length_nil,Nat.reduceAdd,Nat.zero_add,List.range,List.range.loop])|(with_reducible refine mu_cf hK ?_ ?_;(· first | (walk_nrm; done) | (simp [Act.eval]; done)))|(with_reducible refine mu_ct hK ?_ ?_;(· first | (walk_nrm; done) | (simp [Act.eval]; done)))|(refine mu_unwanted hK rfl rfl ?_; walk_nrm)|(refine muv_val hV rfl (by first | exact .inl rfl | exact .inr rfl) rfl (by kernel_rfl) (fun J hJ=>?_); go_simp; with_reducible refine hJ _ ?_; clear hJ J; walk_nrm))
     refine mu_leave0 hK rfl rfl Try.func107 rfl ?_
     refine yek _ ?_
     clear hK hV key yek K
     exact KE _
   have c4 : (d == 4) = false:=by simpa using d4'
   by_cases hno5 : d = 5
   · have c5 : (d == 5) = true:=by simpa using hno5
     have hF' : (Uth D C).turn σ i = (s.note i p).set i 3:=by rw [hF]; simp [tgo,hno5]; try rfl
     obtain ⟨lv2,hw2,hrow2,-⟩:=M2.inv.world
     obtain ⟨sb,sn,sc,rfl⟩:=slice_of2 hrow2
     obtain ⟨wb1,wb2,wb3⟩:=O.wb i hi
     have hb2:=((M2.inv.old _ wb1).2 wb2).trans wb3
     clear hrow2
     obtain ⟨K,hK,hV,key,yek⟩:=kKV (L:=Lone) (J:=fun g=>Will Try.prog false E.Z (TEnd C (Uth D C) σ i own₀ V₀ ((baseD 141).at a₁ (.inRegion ops₁ (i₁ :: rest₁) :: k₁))) g V2) mu_will (muv_will hn2)
     refine key _ ?_
     repeat (first|(with_reducible first|refine mu_seq hK ?_|refine mu_skip hK ?_|(refine mu_region_end hK ?_;try subst hkk)|refine mu_block hK ?_|refine mu_inBlock hK ?_|refine mu_ret hK ?_|refine mu_end hK ?_)|refine mu_exit hK rfl ?_|(with_reducible refine mu_regionH hK (fun kk hkk=>?_); simp only [List.size_toArray,List.length_cons,List.length_nil,Nat.reduceAdd,Nat.zero_add,List.range,List.range.loop])|(with_reducible refine mu_cf hK ?_ ?_;(· first | (walk_nrm; done) | (simp [Act.eval]; done)))|(with_reducible refine mu_ct hK ?_ ?_;(· first | (walk_nrm; done) | (simp [Act.eval]; done)))|(refine mu_unwanted hK rfl rfl ?_; walk_nrm)|(refine muv_val hV rfl (by first | exact .inl rfl | exact .inr rfl) rfl (by kernel_rfl) (fun J hJ=>?_); go_simp; with_reducible refine hJ _ ?_; clear hJ J; walk_nrm))
     refine yek _ ?_
     clear hK hV key yek K
     refine (fun (h : ∀ X kt,R14t = X → Will Try.prog false E.Z (TEnd C (Uth D C) σ i own₀ V₀ ((baseD 141).at a₁ (.inRegion ops₁ (i₁ :: rest₁) :: k₁))) (G ((base 107).at _ (.code X :: kt)) [(baseD 141).at a₁ (.inRegion ops₁ (i₁ :: rest₁) :: k₁),rootF]) V2)=>h _ _ (by simp only [R14t,E4t,E3t,E2t,E1t,kt0,ops7t,ops9t,rops,SWt,R3t,R4t,T5t,BBt,LT,B107,nct,nce,nva,nvb,nvk,nvl,Try.f107,Option.getD_some])) ?_
     intro X kt hX
     subst hX
     exact th_panic (D:=D) hn2 hw2 hb2 ⟨by simp,rfl,rfl,rfl,rfl⟩ rfl (fun v=>Will.stop (tend M2 hF' rfl rfl (set_upd _ i 3) (.inr (.inr ⟨upd_same _ _ _,.inr ⟨v,rfl⟩⟩))))
   have c5 : (d == 5) = false:=by simpa using hno5
   have hF' : (Uth D C).turn σ i = tgo D.n i r (p + 1) (s.note i p):=by rw [hF]; simp [tgo,d0,d1',d2',d4',hno5]; try rfl
   obtain ⟨K,hK,hV,key,yek⟩:=kKV (L:=Lone) (J:=fun g=>Will Try.prog false E.Z (TEnd C (Uth D C) σ i own₀ V₀ ((baseD 141).at a₁ (.inRegion ops₁ (i₁ :: rest₁) :: k₁))) g V2) mu_will (muv_will hn2)
   refine key _ ?_
   repeat (first|(with_reducible first|refine mu_seq hK ?_|refine mu_skip hK ?_|(refine mu_region_end hK ?_;try subst hkk)|refine mu_block hK ?_|refine mu_inBlock hK ?_|refine mu_ret hK ?_|refine mu_end hK ?_)|refine mu_exit hK rfl ?_|(with_reducible refine mu_regionH hK (fun kk hkk=>?_); simp only [List.size_toArray,List.length_cons,List.length_nil,Nat.reduceAdd,Nat.zero_add,List.range,List.range.loop])|(with_reducible refine mu_cf hK ?_ ?_;(· first | (walk_nrm; done) | (simp [Act.eval]; done)))|(with_reducible refine mu_ct hK ?_ ?_;(· first | (walk_nrm; done) | (simp [Act.eval]; done)))|(refine mu_unwanted hK rfl rfl ?_; walk_nrm)|(refine muv_val hV rfl (by first | exact .inl rfl | exact .inr rfl) rfl (by kernel_rfl) (fun J hJ=>?_); go_simp; with_reducible refine hJ _ ?_; clear hJ J; walk_nrm))
   refine mu_inLoop hK ?_
   refine yek _ ?_
   clear hK hV key yek K
   refine ih (p + 1) _ own2 V2 _ hr' (upd_same _ _ _) ⟨h22,h20⟩ hF' M2 ⟨by simp,rfl,rfl,rfl,rfl⟩ rfl
end
end Go.Proofs.Ytibcdikfbhmheaa

namespace Go.Proofs.Ytibcdikfbhmheaa
open Go Go.Conc Go.Proofs
open Go.ConcN (sumTo upd sumTo_upd upd_ne upd_same)
set_option linter.unusedVariables false
theorem set_set (s : TS) (i : Nat) (x y : Int) : (s.set i x).set i y = s.set i y:=by
 have e : upd (upd s.st i x) i y = upd s.st i y:=by
   funext j
   by_cases h : j = i
   · subst h; rw [upd_same,upd_same]
   · rw [upd_ne _ _ h,upd_ne _ _ h,upd_ne _ _ h]
 show TS.mk s.at_ (upd (upd s.st i x) i y) s.log = TS.mk s.at_ (upd s.st i y) s.log
 rw [e]
theorem tgo_set (n i : Nat) : ∀ (r : List (Int × Int)) (p : Nat) (s : TS),s.st i ≠ 2 → tgo n i r p (s.set i 1) = tgo n i r p s:=by
 intro r
 induction r with
 | nil=>intro p s h; exact set_set s i 1 3
 | cons a r ih =>
   intro p s h
   obtain ⟨d,x⟩:=a
   have e1 : (s.set i 1).note i p = (s.note i p).set i 1:=rfl
   rw [tgo,tgo,e1]
   by_cases d0 : d = 0
   · rw [if_pos d0,if_pos d0,set_set]
   rw [if_neg d0,if_neg d0]
   by_cases d1 : d = 1
   · rw [if_pos d1,if_pos d1,set_set]
   rw [if_neg d1,if_neg d1]
   by_cases d2 : d = 2
   · rw [if_pos d2,if_pos d2]
     have e2 : ({ (s.note i p).set i 1 with st:=wake n ((s.note i p).set i 1).st x } : TS) = ({ s.note i p with st:=wake n (s.note i p).st x } : TS).set i 1:=by
       show TS.mk _ (wake n (upd s.st i 1) x) _ = TS.mk _ (upd (wake n s.st x) i 1) _
       rw [(wake_upd h).1]
       rfl
     have e3 : (s.set i 1).st = ((s.note i p).set i 1).st:=rfl
     rw [e3,e2]
     exact ih (p + 1) _ (by show wake n s.st x i ≠ 2; rw [(wake_upd h).2]; exact h)
   rw [if_neg d2,if_neg d2]
   by_cases d4 : d = 4 ∨ d = 5
   · rw [if_pos d4,if_pos d4,set_set]
   rw [if_neg d4,if_neg d4]
   exact ih (p + 1) _ h
theorem tgo_at (n i j : Nat) (hj : j ≠ i) : ∀ (r : List (Int × Int)) (p : Nat) (s : TS),(tgo n i r p s).at_ j = s.at_ j:=by
 intro r
 induction r with
 | nil=>intro p s; rfl
 | cons a r ih =>
   intro p s
   obtain ⟨d,x⟩:=a
   have e : (s.note i p).at_ j = s.at_ j:=upd_ne _ _ hj
   rw [tgo]
   split
   · exact e
   split
   · exact e
   split
   · exact (ih _ _).trans e
   split
   · exact e
   · exact (ih _ _).trans e
theorem wake_st (n : Nat) (st : Nat → Int) (x : Int) (j : Nat) : wake n st x j = st j ∨ (st j = 2 ∧ wake n st x j = 1):=by
 unfold wake
 split
 · rename_i h
   by_cases e : j = x.toNat
   · subst e; rw [upd_same]; exact .inr ⟨h.2.2,rfl⟩
   · rw [upd_ne _ _ e]; exact .inl rfl
 · exact .inl rfl
theorem tgo_st (n i j : Nat) (hj : j ≠ i) : ∀ (r : List (Int × Int)) (p : Nat) (s : TS),(tgo n i r p s).st j = s.st j ∨ (s.st j = 2 ∧ (tgo n i r p s).st j = 1):=by
 intro r
 induction r with
 | nil=>intro p s; exact .inl (upd_ne _ _ hj)
 | cons a r ih =>
   intro p s
   obtain ⟨d,x⟩:=a
   rw [tgo]
   split
   · exact .inl (upd_ne _ _ hj)
   split
   · exact .inl (upd_ne _ _ hj)
   split
   · rcases ih (p + 1) { s.note i p with st:=wake n s.st x } with h | ⟨h,k⟩
     · rcases wake_st n s.st x j with h' | ⟨h',k'⟩
       · exact .inl (h.trans h')
       · exact .inr ⟨h',h.trans k'⟩
     · rcases wake_st n s.st x j with h' | ⟨h',k'⟩
       · exact .inr ⟨h'.symm.trans h,k⟩
       · have h2 : wake n s.st x j = 2:=h
         rw [k'] at h2
         cases h2
   split
   · exact .inl (upd_ne _ _ hj)
   · exact ih _ _
section
variable {D : Th} {C : Cw} {E : Env} {i : Nat} {own : Nat → Prop} {V : World}
theorem uth_start (O : ThOk D) (hO : CwOk E C) (hnC : C.n = D.n) (hn64 : C.n ≤ 64) (hi : i < C.n) {σ : TS} (hs : σ.st i = 0) {a₁ : Act} {ops₁ : Array Oper} {i₁ : Nat} {rest₁ : List Nat} {k₁ : List Item} (hn : norm V = V) (H : CwAt C false (upd (fun j=>cl (σ.st j)) i 1) V) (I : TInv D σ own V) (hown : ∀ b,own b → b < V.heap.size ∧ b ≠ C.cb ∧ ∀ j,j < C.n → b ≠ C.tb j) (hL : LsV C V) (hlb : ∀ b,own b → b ≠ C.lb) :
   Will Try.prog false E.Z (TEnd C (Uth D C) σ i own V ((baseD 141).at a₁ (.inRegion ops₁ (i₁ :: rest₁) :: k₁))) (G (Frame.enter Try.prog 107 #[C.tp i,bp (D.wb i),bp (D.ib i),bp (D.lb i)] .normal) [(baseD 141).at a₁ (.inRegion ops₁ (i₁ :: rest₁) :: k₁),rootF]) V:=by
 have hiD : i < D.n:=by omega
 have hat:=I.z i hiD hs
 have M : TMid D C i own V (σ.set i 1) own V:=⟨hn,Nat.le_refl _,fun _ _ _ _=>rfl,I.st rfl rfl fun j hj=>by
   by_cases e : j = i
   · subst e; have : upd σ.st j 1 j = 0:=hj; rw [upd_same] at this; cases this
   · have : upd σ.st i 1 j = 0:=hj
     rwa [upd_ne _ _ e] at this,fun b hb=>⟨.inl hb,(hown b hb).1⟩,by
   have e : upd (fun j=>cl ((σ.set i 1).st j)) i 1 = upd (fun j=>cl (σ.st j)) i 1:=by
     funext j
     by_cases e : j = i
     · subst e; rw [upd_same,upd_same]
     · rw [upd_ne _ _ e,upd_ne _ _ e]
       show cl (upd σ.st i 1 j) = _
       rw [upd_ne _ _ e]
   rw [e]
   exact H,fun b hb=>⟨(hown b hb).2.1,(hown b hb).2.2,hlb b hb⟩,hL⟩
 have hF : (Uth D C).turn σ i = tgo D.n i ((D.acts i).drop 0) 0 (σ.set i 1):=by
   show tgo D.n i ((D.acts i).drop (σ.at_ i)) (σ.at_ i) σ = _
   rw [hat,tgo_set _ _ _ _ _ (by omega)]
 rw [enter_at (P:=Try.prog) _ Try.func107 rfl]
 have hnt : Try.f107.ntmps = 74:=rfl
 rw [hnt]
 refine (fun (h : ∀ X,B107 = X → Will Try.prog false E.Z (TEnd C (Uth D C) σ i own V ((baseD 141).at a₁ (.inRegion ops₁ (i₁ :: rest₁) :: k₁))) (G ((base 107).at ⟨_,[]⟩ [.code X]) [(baseD 141).at a₁ (.inRegion ops₁ (i₁ :: rest₁) :: k₁),rootF]) V)=>h _ (by simp only [B107,Try.f107,Option.getD_some])) ?_
 intro X hX
 subst hX
 have hX' : B107 = .seq R0t (.seq (nva (nvb B107)) (.block 0 (.loop LT))):=by simp only [R0t,LT,kt0,ops7t,ops9t,rops,SWt,R3t,R4t,T5t,BBt,B107,nct,nce,nva,nvb,nvk,nvl,Try.f107,Option.getD_some]
 rw [hX']
 obtain ⟨K,hK,hV,key,yek⟩:=kKV (L:=Lone) (J:=fun g=>Will Try.prog false E.Z (TEnd C (Uth D C) σ i own V ((baseD 141).at a₁ (.inRegion ops₁ (i₁ :: rest₁) :: k₁))) g V) mu_will (muv_will hn)
 refine key _ ?_
 refine mu_seq hK ?_
 refine yek _ ?_
 clear hK hV key yek K
 refine th_r0 O hn I hiD hi H (by refine ⟨?_,?_,?_,?_,?_⟩ <;> simp [bp,Cw.tp]) fun T hT=>?_
 obtain ⟨h74,t0,t1,t2,t3⟩:=hT
 obtain ⟨v0,v1,v2,v3,v4,v5,v6,v7,v8,v9,v10,v11,v12,v13,v14,v15,v16,v17,v18,v19,v20,v21,v22,v23,v24,v25,v26,v27,v28,v29,v30,v31,v32,v33,v34,v35,v36,v37,v38,v39,v40,v41,v42,v43,v44,v45,v46,v47,v48,v49,v50,v51,v52,v53,v54,v55,v56,v57,v58,v59,v60,v61,v62,v63,v64,v65,v66,v67,v68,v69,v70,v71,v72,v73,rfl⟩:=array74 T h74
 simp only [List.getElem?_toArray,List.getElem?_cons_zero,List.getElem?_cons_succ,Option.some.injEq] at t0 t1 t2 t3
 subst t0 t1 t2 t3
 refine (fun (h : ∀ X,X = nva (nvb B107) → Will Try.prog false E.Z (TEnd C (Uth D C) σ i own V ((baseD 141).at a₁ (.inRegion ops₁ (i₁ :: rest₁) :: k₁))) (G ((base 107).at ⟨_,[]⟩ [.code (.seq X (.block 0 (.loop LT)))]) [(baseD 141).at a₁ (.inRegion ops₁ (i₁ :: rest₁) :: k₁),rootF]) V)=>h _ rfl) ?_
 intro X hX
 simp only [B107,nva,nvb,Try.f107,Option.getD_some] at hX
 subst hX
 obtain ⟨K,hK,hV,key,yek⟩:=kKV (L:=Lone) (J:=fun g=>Will Try.prog false E.Z (TEnd C (Uth D C) σ i own V ((baseD 141).at a₁ (.inRegion ops₁ (i₁ :: rest₁) :: k₁))) g V) mu_will (muv_will hn)
 refine key _ ?_
 repeat (first|(with_reducible first|refine mu_seq hK ?_|refine mu_skip hK ?_|(refine mu_region_end hK ?_;try subst hkk)|refine mu_block hK ?_|refine mu_inBlock hK ?_|refine mu_ret hK ?_|refine mu_end hK ?_)|refine mu_exit hK rfl ?_|(with_reducible refine mu_regionH hK (fun kk hkk=>?_); simp only [List.size_toArray,List.length_cons,List.length_nil,Nat.reduceAdd,Nat.zero_add,List.range,List.range.loop])|(with_reducible refine mu_cf hK ?_ ?_;(· first | (walk_nrm; done) | (simp [Act.eval]; done)))|(with_reducible refine mu_ct hK ?_ ?_;(· first | (walk_nrm; done) | (simp [Act.eval]; done)))|(refine mu_unwanted hK rfl rfl ?_; walk_nrm)|(refine muv_val hV rfl (by first | exact .inl rfl | exact .inr rfl) rfl (by kernel_rfl) (fun J hJ=>?_); go_simp; with_reducible refine hJ _ ?_; clear hJ J; walk_nrm))
 refine mu_loop hK ?_
 refine yek _ ?_
 clear hK hV key yek K
 exact th_loop O hO hnC hn64 hiD ((D.acts i).drop 0) 0 (σ.set i 1) own V _ rfl hat ⟨by show upd σ.st i 1 i ≠ 2; rw [upd_same]; decide,by show upd σ.st i 1 i ≠ 0; rw [upd_same]; decide⟩ hF M ⟨by simp,rfl,rfl,rfl,rfl⟩ rfl
theorem uth_resume (O : ThOk D) (hO : CwOk E C) (hnC : C.n = D.n) (hn64 : C.n ≤ 64) (hi : i < C.n) {σ : TS} (hs : σ.st i = 1) {T : Array Value} {ops : Array Oper} {p : Nat} (hat : σ.at_ i = p + 1) (hops : ops = ops7t ∨ ops = ops9t) (hT : HTh D C i T) (t5 : T[5]? = some (.int .i64 (p : Int))) {a₁ : Act} {ops₁ : Array Oper} {i₁ : Nat} {rest₁ : List Nat} {k₁ : List Item} (hn : norm V = V) (H : CwAt C false (fun j=>cl (σ.st j)) V) (I : TInv D σ own V) (hown : ∀ b,own b → b < V.heap.size ∧ b ≠ C.cb ∧ ∀ j,j < C.n → b ≠ C.tb j) (hL : LsV C V) (hlb : ∀ b,own b → b ≠ C.lb) :
   Will Try.prog false E.Z (TEnd C (Uth D C) σ i own V ((baseD 141).at a₁ (.inRegion ops₁ (i₁ :: rest₁) :: k₁))) (G ((base 107).at (Act.put ⟨T,[]⟩ ((ops[1]?).bind (·.dst)) (.tuple #[])) (.inRegion ops [] :: kt0)) [(baseD 141).at a₁ (.inRegion ops₁ (i₁ :: rest₁) :: k₁),rootF]) V:=by
 have hiD : i < D.n:=by omega
 have hle:=I.le i hiD
 have hlen:=O.len i hiD
 have M : TMid D C i own V σ own V:=⟨hn,Nat.le_refl _,fun _ _ _ _=>rfl,I,fun b hb=>⟨.inl hb,(hown b hb).1⟩,by
   have e : upd (fun j=>cl (σ.st j)) i 1 = fun j=>cl (σ.st j):=by
     funext j
     by_cases e : j = i
     · subst e; rw [upd_same,hs]; rfl
     · rw [upd_ne _ _ e]
   rw [e]
   exact H,fun b hb=>⟨(hown b hb).2.1,(hown b hb).2.2,hlb b hb⟩,hL⟩
 have hF : (Uth D C).turn σ i = tgo D.n i ((D.acts i).drop (p + 1)) (p + 1) σ:=by
   show tgo D.n i ((D.acts i).drop (σ.at_ i)) (σ.at_ i) σ = _
   rw [hat]
 have w4 : IntKind.i64.wrap ((p : Int) + 1) = ((p + 1 : Nat) : Int):=by rw [IntKind.wrap_i64]; omega
 obtain ⟨h74,t0,t1,t2,t3⟩:=hT
 obtain ⟨v0,v1,v2,v3,v4,v5,v6,v7,v8,v9,v10,v11,v12,v13,v14,v15,v16,v17,v18,v19,v20,v21,v22,v23,v24,v25,v26,v27,v28,v29,v30,v31,v32,v33,v34,v35,v36,v37,v38,v39,v40,v41,v42,v43,v44,v45,v46,v47,v48,v49,v50,v51,v52,v53,v54,v55,v56,v57,v58,v59,v60,v61,v62,v63,v64,v65,v66,v67,v68,v69,v70,v71,v72,v73,rfl⟩:=array74 T h74
 simp only [List.getElem?_toArray,List.getElem?_cons_zero,List.getElem?_cons_succ,Option.some.injEq] at t0 t1 t2 t3 t5
 subst t0 t1 t2 t3 t5
 rcases hops with rfl | rfl
 · refine (fun (h : ∀ X Y,X = ops7t → Y = R3t → Will Try.prog false E.Z (TEnd C (Uth D C) σ i own V ((baseD 141).at a₁ (.inRegion ops₁ (i₁ :: rest₁) :: k₁))) (G ((base 107).at (Act.put ⟨_,[]⟩ ((X[1]?).bind (·.dst)) (.tuple #[])) (.inRegion X [] :: [.inBlock 2,.inBlock 1,.code Y,.inLoop LT,.inBlock 0])) [(baseD 141).at a₁ (.inRegion ops₁ (i₁ :: rest₁) :: k₁),rootF]) V)=>h ops7t R3t rfl rfl) ?_
   intro X Y hX hY
   simp only [LT,kt0,ops7t,ops9t,rops,SWt,R3t,R4t,T5t,BBt,B107,nct,nce,nva,nvb,nvk,nvl,Try.f107,Option.getD_some] at hX hY
   subst hX hY
   walk_nrm
   obtain ⟨K,hK,hV,key,yek⟩:=kKV (L:=Lone) (J:=fun g=>Will Try.prog false E.Z (TEnd C (Uth D C) σ i own V ((baseD 141).at a₁ (.inRegion ops₁ (i₁ :: rest₁) :: k₁))) g V) mu_will (muv_will hn)
   refine key _ ?_
   repeat (first|(with_reducible first|refine mu_seq hK ?_|refine mu_skip hK ?_|(refine mu_region_end hK ?_;try subst hkk)|refine mu_block hK ?_|refine mu_inBlock hK ?_|refine mu_ret hK ?_|refine mu_end hK ?_)|refine mu_exit hK rfl ?_|(with_reducible refine mu_regionH hK (fun kk hkk=>?_); simp only [List.size_toArray,List.length_cons,List.length_nil,Nat.reduceAdd,Nat.zero_add,List.range,List.range.loop])|(with_reducible refine mu_cf hK ?_ ?_;(· first | (walk_nrm; done) | (simp [Act.eval]; done)))|(with_reducible refine mu_ct hK ?_ ?_;(· first | (walk_nrm; done) | (simp [Act.eval]; done)))|(refine mu_unwanted hK rfl rfl ?_; walk_nrm)|(refine muv_val hV rfl (by first | exact .inl rfl | exact .inr rfl) rfl (by kernel_rfl) (fun J hJ=>?_); go_simp; with_reducible refine hJ _ ?_; clear hJ J; walk_nrm))
   refine mu_inLoop hK ?_
   refine yek _ ?_
   clear hK hV key yek K
   exact th_loop O hO hnC hn64 hiD _ (p + 1) σ own V _ rfl hat ⟨by rw [hs]; decide,by rw [hs]; decide⟩ hF M ⟨by simp,rfl,rfl,rfl,rfl⟩ rfl
 · refine (fun (h : ∀ X Y,X = ops9t → Y = R3t → Will Try.prog false E.Z (TEnd C (Uth D C) σ i own V ((baseD 141).at a₁ (.inRegion ops₁ (i₁ :: rest₁) :: k₁))) (G ((base 107).at (Act.put ⟨_,[]⟩ ((X[1]?).bind (·.dst)) (.tuple #[])) (.inRegion X [] :: [.inBlock 2,.inBlock 1,.code Y,.inLoop LT,.inBlock 0])) [(baseD 141).at a₁ (.inRegion ops₁ (i₁ :: rest₁) :: k₁),rootF]) V)=>h ops9t R3t rfl rfl) ?_
   intro X Y hX hY
   simp only [LT,kt0,ops7t,ops9t,rops,SWt,R3t,R4t,T5t,BBt,B107,nct,nce,nva,nvb,nvk,nvl,Try.f107,Option.getD_some] at hX hY
   subst hX hY
   walk_nrm
   obtain ⟨K,hK,hV,key,yek⟩:=kKV (L:=Lone) (J:=fun g=>Will Try.prog false E.Z (TEnd C (Uth D C) σ i own V ((baseD 141).at a₁ (.inRegion ops₁ (i₁ :: rest₁) :: k₁))) g V) mu_will (muv_will hn)
   refine key _ ?_
   repeat (first|(with_reducible first|refine mu_seq hK ?_|refine mu_skip hK ?_|(refine mu_region_end hK ?_;try subst hkk)|refine mu_block hK ?_|refine mu_inBlock hK ?_|refine mu_ret hK ?_|refine mu_end hK ?_)|refine mu_exit hK rfl ?_|(with_reducible refine mu_regionH hK (fun kk hkk=>?_); simp only [List.size_toArray,List.length_cons,List.length_nil,Nat.reduceAdd,Nat.zero_add,List.range,List.range.loop])|(with_reducible refine mu_cf hK ?_ ?_;(· first | (walk_nrm; done) | (simp [Act.eval]; done)))|(with_reducible refine mu_ct hK ?_ ?_;(· first | (walk_nrm; done) | (simp [Act.eval]; done)))|(refine mu_unwanted hK rfl rfl ?_; walk_nrm)|(refine muv_val hV rfl (by first | exact .inl rfl | exact .inr rfl) rfl (by kernel_rfl) (fun J hJ=>?_); go_simp; with_reducible refine hJ _ ?_; clear hJ J; walk_nrm))
   refine mu_inLoop hK ?_
   refine yek _ ?_
   clear hK hV key yek K
   exact th_loop O hO hnC hn64 hiD _ (p + 1) σ own V _ rfl hat ⟨by rw [hs]; decide,by rw [hs]; decide⟩ hF M ⟨by simp,rfl,rfl,rfl,rfl⟩ rfl
theorem uth_ok (O : ThOk D) (hO : CwOk E C) (hnC : C.n = D.n) (hn64 : C.n ≤ 64) (hf : ∀ i,i < C.n → C.f i = .func (.func 107) #[] #[bp (D.wb i),bp (D.ib i),bp (D.lb i)]) : UOk E C (Uth D C):=by
 refine ⟨fun σ own V V' I hk hsz=>?_,fun σ i cs h=>?_,fun σ i j cs hi _ hj h=>?_,fun σ i j hi _ hj hji=>?_,fun σ i _=>cl_four _,fun σ i hi h=>⟨hf i hi,_,_,Try.func107,by kernel_rfl,rfl⟩,fun σ i own V Rf bx hi hs hRf hn H I hown hL hlb=>?_,fun σ i own V Rf bx b a ops i₀ rest k cs hi hs hl hRf hn H I hown hL hlb=>?_⟩
 · obtain ⟨lv,hw,hrow,hlv⟩:=I.world
   exact ⟨Nat.le_trans I.sz hsz,⟨lv,by rw [hk _ (I.old _ O.wp).1]; exact hw,row_keep hrow fun b hb=>hk b (hlv b hb).1,hlv⟩,fun b hb=>⟨(I.old b hb).1,fun hne=>by rw [hk b (I.old b hb).1]; exact (I.old b hb).2 hne⟩,I.cnt,I.le,I.z⟩
 · obtain ⟨T,ops,p,_,_,_,_,rfl⟩:=h
   intro f hf
   obtain rfl : f = _:=by simpa using hf
   exact uf_at rfl rfl rfl ⟨_,Try.func107⟩
 · obtain ⟨T,ops,p,h1,h2⟩:=h
   exact ⟨T,ops,p,(tgo_at D.n i j hj _ _ _).trans h1,h2⟩
 · show cl _ = cl _ ∨ (cl _ = 2 ∧ cl _ = 1)
   rcases tgo_st D.n i j hji ((D.acts i).drop (σ.at_ i)) (σ.at_ i) σ with h | ⟨h,k⟩
   · exact .inl (congrArg cl h)
   · exact .inr ⟨(cl_two _).2 h,(cl_one _).2 k⟩
 · obtain ⟨a₁,ops₁,i₁,rest₁,k₁,eRf,-⟩:=hRf
   subst eRf
   exact uth_start O hO hnC hn64 hi ((cl_zero _).1 hs) hn H I hown hL hlb
 · obtain ⟨a₁,ops₁,i₁,rest₁,k₁,eRf,-⟩:=hRf
   subst eRf
   obtain ⟨T,ops',p,hat,hops,hT,t5,e⟩:=hl
   obtain ⟨e1,rfl⟩:=List.cons.inj e
   obtain ⟨rfl,e2,e3⟩:=at_inj e1
   obtain ⟨rfl,e4,rfl⟩:=item_inj e2
   obtain ⟨rfl,rfl⟩:=List.cons.inj e4
   rw [e3]
   exact uth_resume O hO hnC hn64 hi ((cl_one _).1 hs) hat hops hT t5 hn H I hown hL hlb
end
end Go.Proofs.Ytibcdikfbhmheaa
