import Derived.Test.YtibcdikfbhmheaaB23
import Derived.Test.YtibcdikfbhmheaaB22
set_option linter.unusedSimpArgs false
set_option linter.unusedVariables false
set_option maxRecDepth 100000
set_option maxHeartbeats 4000000
namespace Go.Proofs.Ytibcdikfbhmheaa
open Go Go.Conc Go.Proofs
open Go.ConcN (sumTo upd sumTo_upd upd_ne upd_same)
set_option linter.unusedVariables false
theorem arrg_B24 {n : Nat} (T : Array Value) (h : T.size = n) : ∃ f : Nat → Value,(∀ i v,T[i]? = some v → f i = v) ∧ T = ((List.range n).map f).toArray:=by
 refine ⟨fun i=>T.getD i undef,fun i v hv=>by simp [Array.getD_eq_getD_getElem?,hv],?_⟩
 generalize hf : (fun i=>T.getD i undef) = f
 have e : T.toList = (List.range n).map f:=by
   apply List.ext_getElem?
   intro i
   rw [List.getElem?_map,Array.getElem?_toList]
   by_cases hi : i < n
   · rw [List.getElem?_range hi,Option.map_some,← hf]
     simp [Array.getD_eq_getD_getElem?,Array.getElem?_eq_getElem (show i < T.size by omega)]
   · rw [List.getElem?_eq_none (by simp; omega),Array.getElem?_eq_none (by omega)]
     rfl
 rw [← Array.toArray_toList (xs:=T),e]
theorem array15f (T : Array Value) (h : T.size = 15) : ∃ f : Nat → Value,(∀ i v,T[i]? = some v → f i = v) ∧ T = #[f 0,f 1,f 2,f 3,f 4,f 5,f 6,f 7,f 8,f 9,f 10,f 11,f 12,f 13,f 14]:=arrg_B24 T h
theorem array15 (T : Array Value) (h : T.size = 15) : ∃ v0 v1 v2 v3 v4 v5 v6 v7 v8 v9 v10 v11 v12 v13 v14 : Value,T = #[v0,v1,v2,v3,v4,v5,v6,v7,v8,v9,v10,v11,v12,v13,v14]:=by
 obtain ⟨l⟩:=T
 simp only [List.size_toArray] at h
 rcases l with _ | ⟨v0,l⟩
 · simp at h
 rcases l with _ | ⟨v1,l⟩
 · simp at h
 rcases l with _ | ⟨v2,l⟩
 · simp at h
 rcases l with _ | ⟨v3,l⟩
 · simp at h
 rcases l with _ | ⟨v4,l⟩
 · simp at h
 rcases l with _ | ⟨v5,l⟩
 · simp at h
 rcases l with _ | ⟨v6,l⟩
 · simp at h
 rcases l with _ | ⟨v7,l⟩
 · simp at h
 rcases l with _ | ⟨v8,l⟩
 · simp at h
 rcases l with _ | ⟨v9,l⟩
 · simp at h
 rcases l with _ | ⟨v10,l⟩
 · simp at h
 rcases l with _ | ⟨v11,l⟩
 · simp at h
 rcases l with _ | ⟨v12,l⟩
 · simp at h
 rcases l with _ | ⟨v13,l⟩
 · simp at h
 rcases l with _ | ⟨v14,l⟩
 · simp at h
 rcases l with _ | ⟨x,l⟩
 · exact ⟨v0,v1,v2,v3,v4,v5,v6,v7,v8,v9,v10,v11,v12,v13,v14,rfl⟩
 · simp at h
noncomputable def B126 : Code:=Try.f126.body.getD .skip
noncomputable def RA126 : Code:=nvb B126
noncomputable def ops126a : Array Oper:=rops (nva B126)
noncomputable def RB126 : Code:=nvb RA126
noncomputable def ops126b : Array Oper:=rops (nva RA126)
noncomputable def R2w : Code:=nva RB126
noncomputable def R3w : Code:=nvb RB126
theorem wpOp_call {P : Program} {ops : Array Oper} {Q : Exit → Act → World → Prop} {i : Nat} {o : Oper} {K : Act → World → Prop} {a : Act} {w : World} {f : FuncId} {args : Array Value} (ho : ops[i]? = some o) (hw : Region.wanted o (yielded ops a.tmps) = true) (hr : (execOp a.eval o).run P w = .ok (.enter f args) w) (hc : Calls P f args w fun e w'=>∃ v,e = .returned v ∧ K (a.put o.dst v) w') : wpOp P ops Q i K a w:=by
 unfold wpOp
 simp only [ho,hw,if_true]
 left
 unfold Oper.wp
 rw [hr,Oper.upon_enter]
 refine hc.mono fun e w' h=>?_
 obtain ⟨v,rfl,h⟩:=h
 exact h
theorem own_lit {V : World} {e : TypeId} {sz b m : Nat} {cs : Array Value} (h : V.heap[b]? = some (.cells cs e (0,0))) (hm : cs.size = m * sz) (hx : m < 1000) : V.ownsRow 0 e sz (.slice (some ⟨b,0,none⟩) m m) m cs.toList :=
 ⟨by simpa using hm,.inr ⟨b,m,cs,rfl,Nat.zero_le _,h,Nat.le_refl _,by simp only [maxLen]; omega,hm,by rw [← hm,← Array.length_toList,List.take_length]⟩⟩
def TwT (T : Array Value) (tp : Value) (mb lg : Nat) : Prop:=T.size = 15 ∧ T[0]? = some tp ∧ T[1]? = some (bq mb) ∧ T[2]? = some (bq lg)
def STw (lg tb i : Nat) (lv : Value) (l : Array Bool) (w : World) : Prop:=w.cell? ⟨tb,0,none⟩ = some (.int .i64 (i : Int)) ∧ (l.getD 5 false = false → w.cell? ⟨lg,0,none⟩ = some lv)
section
variable {C : Cw} {main : Bool} {Z : Cuts} {Stop : Goroutine → World → Prop} {V : World} {st : Nat → Int} {i mb lg : Nat} {c : Frame} {cs : List Frame} {b₀ : Frame} {a₀ : Act} {ops₀ : Array Oper} {i₀ : Nat} {rest₀ : List Nat} {k₀ : List Item}
theorem tw_r2 {lv : Value} {m : Nat} {xs : List Value} {T : Array Value} {kt : List Item} {cs0 : List Frame} (hn : norm V = V) (hi : i < C.n) (H : CwAt C false st V) (hlg : V.heap[lg]? = some (.cells #[lv] 23 (0,0))) (hlt : lg ≠ C.tb i) (hrow : V.ownsRow 0 3 1 lv m xs) (hm : m < 100000000) (hT : TwT T (C.tp i) mb lg)
   (K : ∀ T' V' lv',TwT T' (C.tp i) mb lg → norm V' = V' → V'.heap[lg]? = some (.cells #[lv'] 23 (0,0)) → V'.ownsRow 0 3 1 lv' (m + 1) (xs ++ [.int .i64 (i : Int)]) → V.heap.size ≤ V'.heap.size → (∀ b,b < V.heap.size → b ≠ lg → lv.ownBlock ≠ some b → V'.heap[b]? = V.heap[b]?) → (lv'.ownBlock = lv.ownBlock ∨ ∃ b,lv'.ownBlock = some b ∧ V.heap.size ≤ b) → Will Try.prog main Z Stop (G ((base 126).at ⟨T',[]⟩ kt) cs0) V') :
   Will Try.prog main Z Stop (G ((base 126).at ⟨T,[]⟩ (.code R2w :: kt)) cs0) V:=by
 refine will_code (L:=Lone) (R:=fun a' V'=>TwT a'.tmps (C.tp i) mb lg ∧ norm V' = V' ∧ ∃ lv',V'.heap[lg]? = some (.cells #[lv'] 23 (0,0)) ∧ V'.ownsRow 0 3 1 lv' (m + 1) (xs ++ [.int .i64 (i : Int)]) ∧ V.heap.size ≤ V'.heap.size ∧ (∀ b,b < V.heap.size → b ≠ lg → lv.ownBlock ≠ some b → V'.heap[b]? = V.heap[b]?) ∧ (lv'.ownBlock = lv.ownBlock ∨ ∃ b,lv'.ownBlock = some b ∧ V.heap.size ≤ b)) calm rfl ⟨_,Try.func126⟩ rfl (by kernel_rfl) (fun τ=>?_) fun a' V' ⟨h1,h2,lv',h3,h4,h5,h6,h7⟩ ha'=>?_
 · obtain ⟨hs,t0,t1,t2⟩:=hT
   obtain ⟨f,hf,hT⟩:=array15f T hs
   have et0:=hf 0 _ t0
   have et1:=hf 1 _ t1
   have et2:=hf 2 _ t2
   clear hf hs t0 t1 t2
   subst hT
   simp only [et0,et1,et2]
   clear et0 et1 et2
   simp only [RA126,ops126a,RB126,ops126b,R2w,R3w,B126,nva,nvb,rops,Try.f126,Option.getD_some]
   have hid:=H.t0 hi
   have c0 : V.cell? ⟨lg,0,none⟩ = some lv:=cell_of hlg (by simp)
   have z0 : V.frozen? ⟨lg,0,none⟩ = false:=by simp [World.frozen?,hlg]
   have hlb : lg < V.heap.size:=cell_lt c0
   have hlt2 : C.tb i < V.heap.size:=cell_lt hid
   have hrlt : ∀ b,lv.ownBlock = some b → b < V.heap.size:=fun b hb=>row_at hrow hb
   have hlo : lv.ownBlock ≠ some lg:=own_tyL hrow hlg (by decide)
   have hto : lv.ownBlock ≠ some (C.tb i):=own_tyL hrow (H.thr i hi) (by decide)
   obtain ⟨vx,vn,vc,rfl⟩:=slice_of hrow
   simp only [Cw.tp,bq]
   generalize hv : Value.slice vx vn vc = lv at *
   refine wp_region_g (STw lg (C.tb i) i lv) (by kernel_rfl) ?_
   simp only [List.size_toArray,List.length_cons,List.length_nil,Nat.reduceAdd,Nat.zero_add,Array.replicate_succ,Array.replicate_zero,List.push_toArray,List.nil_append,List.cons_append]
   generalize hw0 : ({ re V τ 0 with drawn:=(re V τ 0).drawn + 1 } : World) = w0
   have hh : w0.heap = V.heap:=by rw [← hw0]; rfl
   have hnw : w0.heap.size = V.heap.size:=by rw [hh]
   have SK : ∀ (w : World) (l : Array Bool),w.heap[C.tb i]? = V.heap[C.tb i]? → (l.getD 5 false = false → w.heap[lg]? = V.heap[lg]?) → STw lg (C.tb i) i lv l w:=fun w l h1 h2=>⟨cell_keep hid h1,fun h=>cell_keep c0 (h2 h)⟩
   have S0 : ∀ l,STw lg (C.tb i) i lv l w0:=fun l=>SK w0 l (by rw [hh]) fun _=>by rw [hh]
   clear hw0
   refine wpAnyG_take (i:=0) (v:=lv) rfl (by kernel_rfl) (by kernel_rfl) (by kernel_rfl) (by kernel_rfl) (fun _ _ _ h=>h) (fun l w=>by simp only [STw,set_iff (i:=0) (j:=5) (by decide)]) (Or.inl ⟨by rfl,fun w5 hS5=>by obtain ⟨l5,⟨x0,x1⟩,x2,x3⟩:=hS5; have x4:=x1 (reach_off x2 x3 (n:=20) (m:=5) (by kernel_rfl)).1; rw [← hv] at x4 ⊢; go_simp⟩) (S0 _) ?_
   walk_nrm
   refine wpAnyG_take (i:=1) (v:=.pointer (some ⟨C.tb i,0,none⟩)) rfl (by kernel_rfl) (by kernel_rfl) (by kernel_rfl) (by kernel_rfl) (fun _ _ _ h=>h) (fun l w=>by simp only [STw,set_iff (i:=1) (j:=5) (by decide)]) (Or.inl ⟨by rfl,fun w5 hS5=>by go_simp⟩) (S0 _) ?_
   walk_nrm
   refine wpAnyG_all (rs:=[2]) (by kernel_rfl) (by simp) (fun j hj=>?_)
   obtain rfl : j = 2:=by simpa using hj
   refine wpOp_call (f:=27) (args:=#[.pointer (some ⟨C.tb i,0,none⟩)]) rfl rfl (by go_simp) ((idn27 (C.tb i) i w0 (S0 #[]).1).mono fun e w' h=>?_)
   obtain ⟨rfl,rfl⟩:=h
   refine ⟨_,rfl,S0 _,?_⟩
   walk_nrm
   refine wpAnyG_all (rs:=[3]) (by kernel_rfl) (by simp) (fun j hj=>?_)
   obtain rfl : j = 3:=by simpa using hj
   obtain ⟨w1,hw1⟩ : ∃ x,x = w'.alloc (.cells #[.int .i64 (i : Int)] 3):=⟨_,rfl⟩
   have k1 : ∀ b,b < V.heap.size → w1.heap[b]? = V.heap[b]?:=fun b hb=>by rw [hw1,alloc_get,if_neg (by omega),hh]
   have s1 : w1.heap.size = V.heap.size + 1:=by rw [hw1,alloc_size]; omega
   have e1 : w1.heap[w'.heap.size]? = some (.cells #[.int .i64 (i : Int)] 3 (0,0)):=by rw [hw1,alloc_get,if_pos rfl]
   refine wpOp_val (v:=.slice (some ⟨w'.heap.size,0,none⟩) 1 1) (w':=w1) rfl rfl (by go_simp; first | done | exact ⟨by first | rfl | assumption | (simp only [re]; omega),hw1.symm⟩ | exact hw1.symm) ⟨SK w1 _ (k1 _ hlt2) fun _=>k1 _ hlb,?_⟩
   walk_nrm
   have hr1 : w1.ownsRow 0 3 1 lv m xs:=row_keep hrow fun b hb=>k1 b (hrlt b hb)
   obtain ⟨v3,w3,a1,v3r,v3s,v3k,v3o⟩:=app_row (V:=w1) (t:=23) (z:=.int .i64 0) (B:=8) Try.underlying23 (by kernel_rfl) rfl (by decide) (by decide) hr1 (own_lit (m:=1) (sz:=1) e1 rfl (by decide)) (fun y hy=>by simp at hy; subst hy; rfl) (by omega)
   have k3 : ∀ b,b < V.heap.size → lv.ownBlock ≠ some b → w3.heap[b]? = V.heap[b]?:=fun b hb hne=>(v3k b (by omega) hne).trans (k1 b hb)
   refine wpAnyG_all (rs:=[4]) (by kernel_rfl) (by simp) (fun j hj=>?_)
   obtain rfl : j = 4:=by simpa using hj
   refine wpOp_val (v:=v3) (w':=w3) rfl rfl (run_app_opm (s:=.tmp 8) (x:=.tmp 11) rfl rfl rfl a1) ⟨SK w3 _ (k3 _ hlt2 hto) fun _=>k3 _ hlb hlo,?_⟩
   walk_nrm
   have g1 : w3.cell? ⟨lg,0,none⟩ = some lv:=cell_keep c0 (k3 _ hlb hlo)
   have g2 : w3.frozen? ⟨lg,0,none⟩ = false:=froz_kept z0 (k3 _ hlb hlo)
   have g3 : w3.heap[lg]? = some (.cells #[lv] 23 (0,0)):=(k3 _ hlb hlo).trans hlg
   have hs3 : V.heap.size ≤ w3.heap.size:=by omega
   obtain ⟨yx,yn,yc,hy⟩:=slice_of v3r
   rw [← hv] at g1
   refine wpAnyG_all (rs:=[5]) (by kernel_rfl) (by simp) (fun j hj=>?_)
   obtain rfl : j = 5:=by simpa using hj
   have o3 : v3.ownBlock = lv.ownBlock ∨ ∃ b,v3.ownBlock = some b ∧ V.heap.size ≤ b:=v3o.imp id fun h=>⟨_,h,by omega⟩
   have q3 : v3.ownBlock ≠ some lg:=by
     rcases o3 with h | ⟨b,h,hb⟩
     · rw [h]; exact hlo
     · rw [h]; intro e; have:=Option.some.inj e; omega
   refine wpOp_skip (w':=w3.setCell ⟨lg,0,none⟩ v3) rfl rfl (by subst hy; go_simp) ⟨⟨by unfold World.cell?; rw [set_off _ _ (fun e=>hlt e.symm)]; exact cell_keep hid (k3 _ hlt2 hto),fun h=>absurd h (by decide)⟩,?_⟩
   walk_nrm
   refine wpAnyG_done (by kernel_rfl) ⟨⟨⟨by simp,rfl,rfl,rfl⟩,rfl,v3,?_,?_,?_,fun b hb hne hv=>?_,o3⟩,rfl⟩ _
   · show (w3.setCell ⟨lg,0,none⟩ v3).heap[lg]? = _
     rw [setCell_heap,if_pos rfl,g3]
     simp
   · exact row_keep (w:=w3) v3r fun b hb=>set_off _ _ (fun e=>q3 (by rw [← e]; exact hb))
   · show V.heap.size ≤ (w3.setCell ⟨lg,0,none⟩ v3).heap.size
     simpa [World.setCell] using hs3
   · exact (set_off _ _ hne).trans (k3 b hb hv)
 · obtain ⟨T',df⟩:=a'
   simp only at ha' h1
   subst ha'
   exact K T' V' lv' h1 h2 h3 h4 h5 h6 h7
end
end Go.Proofs.Ytibcdikfbhmheaa

namespace Go.Proofs.Ytibcdikfbhmheaa
open Go Go.Conc Go.Proofs
open Go.ConcN (sumTo upd sumTo_upd upd_ne upd_same)
set_option linter.unusedVariables false
namespace Ls
section
variable {n i : Nat} {y : Nat → Nat} {s : Ls}
theorem st_same {j : Nat} (hji : j ≠ i) (h : (go y s i).ow = j + 1 ↔ s.ow = j + 1) : st y (go y s i) j = st y s j:=by
 have hp:=go_pc y s i j hji
 unfold st
 rw [hp]
 by_cases h2 : s.ow = j + 1
 · rw [if_pos h2,if_pos (h.2 h2)]
 · rw [if_neg h2,if_neg (fun e=>h2 (h.1 e))]
theorem st_leave (h : Ok n y s) (hx : (go y s i).ow = unOw s.q) (ho : s.ow = 0 ∨ s.ow = i + 1) (hiq : i ∉ s.q) {j : Nat} (hj : j < n) : unSt (upd (st y s) i 1) s.q j = upd (st y (go y s i)) i 1 j:=by
 by_cases hji : j = i
 · subst hji
   rw [upd_same]
   rcases qc s.q with hq | ⟨x,l,hq⟩
   · rw [hq]; exact upd_same _ _ _
   · rw [hq]
     have hxi : j ≠ x:=fun e=>hiq (by rw [e,hq]; exact List.mem_cons_self)
     show wk _ x j = 1
     unfold wk
     split
     · rw [upd_ne _ _ hxi,upd_same]
     · exact upd_same _ _ _
 · rw [upd_ne _ _ hji]
   rcases qc s.q with hq | ⟨x,l,hq⟩
   · rw [hq] at hx ⊢
     have : unOw [] = 0:=rfl
     rw [st_same hji (by rw [hx,this]; omega)]
     exact upd_ne _ _ hji
   · have h3:=h.w3 x (by rw [hq]; exact List.mem_cons_self)
     have hxi : x ≠ i:=fun e=>hiq (by rw [← e,hq]; exact List.mem_cons_self)
     have hsx : st y s x = 2:=by unfold st; rw [if_neg (by omega),if_neg (by omega),if_pos h3.2.1,if_neg h3.2.2]
     rw [hq] at hx ⊢
     show wk _ x j = _
     unfold wk
     rw [upd_ne _ _ hxi,if_pos hsx]
     have hox : (go y s i).ow = x + 1:=hx
     by_cases e : j = x
     · subst e
       rw [upd_same]
       unfold st
       rw [go_pc y s i j hji,if_neg (by omega),if_neg (by omega),if_pos h3.2.1,if_pos hox]
     · rw [upd_ne _ _ e,upd_ne _ _ hji,st_same hji (by rw [hox]; omega)]
theorem st_stay (h : Ok n y s) (hi : i < n) (hx : (go y s i).ow = s.ow ∨ (s.ow = 0 ∧ (go y s i).ow = i + 1)) {j : Nat} : upd (st y s) i 1 j = upd (st y (go y s i)) i 1 j:=by
 by_cases hji : j = i
 · subst hji; rw [upd_same,upd_same]
 · rw [upd_ne _ _ hji,upd_ne _ _ hji]
   exact (st_same hji (by rcases hx with hx | ⟨h1,h2⟩ <;> omega)).symm
end
end Ls
def y1 : Nat → Nat:=fun _=>1
def TwA (tp : Value) (mb lg : Nat) (f : Frame) : Prop:=∃ T,TwT T tp mb lg ∧ f = (base 126).at ⟨T,[]⟩ [.inRegion ops126a [1],.code RA126]
def TwB (tp : Value) (mb lg : Nat) (f : Frame) : Prop:=∃ T,TwT T tp mb lg ∧ f = (base 126).at ⟨T,[]⟩ [.inRegion ops126b [1],.code RB126]
structure TwL (n mb lg : Nat) (s : Ls) (own : Nat → Prop) (V : World) (qv lv : Value) : Prop where
 mu : MuI V own mb 0 s.ow s.q qv
 lgc : V.heap[lg]? = some (.cells #[lv] 23 (0,0))
 row : V.ownsRow 0 3 1 lv s.fin.length (ints s.fin)
 lown : ∀ b,lv.ownBlock = some b → own b
 sep : ∀ b,qv.ownBlock = some b → lv.ownBlock ≠ some b
 lm : lv.ownBlock ≠ some mb
 ql : qv.ownBlock ≠ some lg
 lo : own lg
 ne : mb ≠ lg
structure TwInv (n mb lg : Nat) (s : Ls) (own : Nat → Prop) (V : World) : Prop where
 ok : Ls.Ok n y1 s
 at_ : ∃ qv lv,TwL n mb lg s own V qv lv
open Classical in
noncomputable def twTurn (n : Nat) (s : Ls) (i : Nat) : Ls:=if Ls.Ok n y1 s then Ls.go y1 s i else s
def TwLoc (C : Cw) (mb lg : Nat) (s : Ls) (i : Nat) (cs : List Frame) : Prop :=
 (s.pc i = 0 → False) ∧ (s.pc i = 1 → ∃ f u,LkY mb 0 (C.tp i) f ∧ TwA (C.tp i) mb lg u ∧ cs = [f,u]) ∧ (s.pc i = 2 → ∃ f g u,RsP mb 0 (C.tp i) f ∧ LkR g ∧ TwA (C.tp i) mb lg u ∧ cs = [f,g,u]) ∧ (3 ≤ s.pc i → ∃ u,TwB (C.tp i) mb lg u ∧ cs = [u])
noncomputable def Utw (n mb lg : Nat) (C : Cw) : Usr:={ S:=Ls,inv:=TwInv n mb lg,st:=Ls.st y1,loc:=TwLoc C mb lg,turn:=twTurn n,fid:=fun _=>126,first:=fun _=>#[],caps:=fun _=>#[bq mb,bq lg] }
section
variable {C : Cw} {main : Bool} {Z : Cuts} {Stop : Goroutine → World → Prop} {V : World} {st : Nat → Int} {i mb lg : Nat} {c : Frame} {cs : List Frame} {b₀ : Frame} {a₀ : Act} {ops₀ : Array Oper} {i₀ : Nat} {rest₀ : List Nat} {k₀ : List Item}
theorem tw_start {ow : Nat} (hn : norm V = V) (hi : i < C.n) (hn1 : C.n < 1000) (H : CwAt C false st V) (ho : V.cell? ⟨mb,0 + 1,none⟩ = some (.int .i64 (ow : Int))) (hne : ow ≠ i + 1)
   (K0 : ∀ f u,LkY mb 0 (C.tp i) f → TwA (C.tp i) mb lg u → Will Try.prog main Z Stop (G (Frame.enter Try.prog 24 #[C.tp i] .normal) (f :: u :: cs)) V) :
   Will Try.prog main Z Stop (G (Frame.enter Try.prog 126 #[C.tp i,bq mb,bq lg] .normal) cs) V:=by
 have LI:=fun (d : Frame) (ds : List Frame)=>lock_in (main:=main) (Z:=Z) (Stop:=Stop) (c:=d) (cs:=ds) hn hi hn1 H ho hne
 clear H ho
 simp only [Cw.tp] at LI K0 ⊢
 unfold bq
 rw [enter_at (P:=Try.prog) _ Try.func126 rfl]
 simp only [Try.f126]
 walk_nrm
 obtain ⟨K,hK,hV,key,yek⟩:=kKV (L:=Lone) (J:=fun g=>Will Try.prog main Z Stop g V) mu_will (muv_will hn)
 refine key _ ?_
 repeat (first|(with_reducible first|refine mu_seq hK ?_|refine mu_skip hK ?_|(refine mu_region_end hK ?_;try subst hkk)|refine mu_block hK ?_|refine mu_inBlock hK ?_|refine mu_ret hK ?_|refine mu_end hK ?_)|refine mu_exit hK rfl ?_|(with_reducible refine mu_regionH hK (fun kk hkk=>?_);simp only [List.size_toArray,List.length_cons,List.length_nil,Nat.reduceAdd,Nat.zero_add,List.range,List.range.loop])|(with_reducible refine mu_cf hK ?_ ?_;(· first|(walk_nrm;done)|(simp [Act.eval];done)))|(with_reducible refine mu_ct hK ?_ ?_;(· first|(walk_nrm;done)|(simp [Act.eval];done)))|(refine mu_unwanted hK rfl rfl ?_;walk_nrm)|(refine muv_val hV rfl (by first|exact .inl rfl|exact .inr rfl) rfl (by kernel_rfl) (fun J hJ=>?_);go_simp;with_reducible refine hJ _ ?_;clear hJ J;walk_nrm))
 refine mu_call hK rfl rfl (by decide) rfl Try.func45 (by kernel_rfl) rfl ?_
 rw [← enter_at (P:=Try.prog) _ Try.func45 rfl]
 walk_nrm
 refine yek _ ?_
 clear hK hV key yek K
 try subst hkk
 refine LI _ _ fun f hf=>K0 f _ hf ⟨_,⟨?_,?_,?_,?_⟩,by simp only [RA126,ops126a,RB126,ops126b,R2w,R3w,B126,nva,nvb,rops,Try.f126,Option.getD_some]; rfl⟩ <;> rfl
theorem tw_in (hn : norm V = V)
   (K0 : ∀ u,TwB (C.tp i) mb lg u → Will Try.prog main Z Stop (G (Frame.enter Try.prog 24 #[C.tp i] .normal) (u :: cs)) V)
   {b : Frame} {a : Act} {ops : Array Oper} {j : Nat} {rest : List Nat} {k : List Item} {v : Value} (hf : TwA (C.tp i) mb lg (b.at a (.inRegion ops (j :: rest) :: k))) :
   Will Try.prog main Z Stop (G (b.at (a.put ((ops[j]?).bind (·.dst)) v) (.inRegion ops rest :: k)) cs) V:=by
 obtain ⟨T,⟨hs,t0,t1,t2⟩,e⟩:=hf
 obtain ⟨rfl,e2,e3⟩:=at_inj e
 obtain ⟨rfl,e4,rfl⟩:=item_inj e2
 obtain ⟨rfl,rfl⟩:=List.cons.inj e4
 rw [e3]
 have hd : ((ops126a[1]?).bind (·.dst)) = some 5:=by simp only [RA126,ops126a,RB126,ops126b,R2w,R3w,B126,nva,nvb,rops,Try.f126,Option.getD_some]; rfl
 rw [hd]
 clear e e2 e3 e4 hd
 simp only [Cw.tp] at K0 t0
 unfold bq at t1 t2
 obtain ⟨v0,v1,v2,v3,v4,v5,v6,v7,v8,v9,v10,v11,v12,v13,v14,rfl⟩:=array15 T hs
 simp only [List.getElem?_toArray,List.getElem?_cons_zero,List.getElem?_cons_succ,Option.some.injEq] at t0 t1 t2
 subst t0 t1 t2
 rw [show RA126 = nvb B126 from rfl]
 simp only [B126,nvb,Try.f126,Option.getD_some]
 walk_nrm
 obtain ⟨K,hK,hV,key,yek⟩:=kKV (L:=Lone) (J:=fun g=>Will Try.prog main Z Stop g V) mu_will (muv_will hn)
 refine key _ ?_
 repeat (first|(with_reducible first|refine mu_seq hK ?_|refine mu_skip hK ?_|(refine mu_region_end hK ?_;try subst hkk)|refine mu_block hK ?_|refine mu_inBlock hK ?_|refine mu_ret hK ?_|refine mu_end hK ?_)|refine mu_exit hK rfl ?_|(with_reducible refine mu_regionH hK (fun kk hkk=>?_);simp only [List.size_toArray,List.length_cons,List.length_nil,Nat.reduceAdd,Nat.zero_add,List.range,List.range.loop])|(with_reducible refine mu_cf hK ?_ ?_;(· first|(walk_nrm;done)|(simp [Act.eval];done)))|(with_reducible refine mu_ct hK ?_ ?_;(· first|(walk_nrm;done)|(simp [Act.eval];done)))|(refine mu_unwanted hK rfl rfl ?_;walk_nrm)|(refine muv_val hV rfl (by first|exact .inl rfl|exact .inr rfl) rfl (by kernel_rfl) (fun J hJ=>?_);go_simp;with_reducible refine hJ _ ?_;clear hJ J;walk_nrm))
 refine mu_call hK rfl rfl (by decide) rfl Try.func24 (by kernel_rfl) rfl ?_
 rw [← enter_at (P:=Try.prog) _ Try.func24 rfl]
 walk_nrm
 refine yek _ ?_
 clear hK hV key yek K
 try subst hkk
 refine K0 _ ⟨_,⟨?_,?_,?_,?_⟩,by simp only [RA126,ops126a,RB126,ops126b,R2w,R3w,B126,nva,nvb,rops,Try.f126,Option.getD_some]; rfl⟩ <;> rfl
theorem tw_end {lv : Value} {m : Nat} {xs : List Value} (hn : norm V = V) (hi : i < C.n) (H : CwAt C false st V) (hlg : V.heap[lg]? = some (.cells #[lv] 23 (0,0))) (hlt : lg ≠ C.tb i) (hrow : V.ownsRow 0 3 1 lv m xs) (hm : m < 100000000)
   (K : ∀ V' lv',norm V' = V' → V'.heap[lg]? = some (.cells #[lv'] 23 (0,0)) → V'.ownsRow 0 3 1 lv' (m + 1) (xs ++ [.int .i64 (i : Int)]) → V.heap.size ≤ V'.heap.size → (∀ b,b < V.heap.size → b ≠ lg → lv.ownBlock ≠ some b → V'.heap[b]? = V.heap[b]?) → (lv'.ownBlock = lv.ownBlock ∨ ∃ b,lv'.ownBlock = some b ∧ V.heap.size ≤ b) →
     ∀ (c : Frame),(∀ V'',norm V'' = V'' → Will Try.prog main Z Stop (G (b₀.at (a₀.put ((ops₀[i₀]?).bind (·.dst)) (.tuple #[])) (.inRegion ops₀ rest₀ :: k₀)) cs) V'' → Will Try.prog main Z Stop (G (c.finish (.int .i64 0)) (b₀.at a₀ (.inRegion ops₀ (i₀ :: rest₀) :: k₀) :: cs)) V'') → Will Try.prog main Z Stop (G (Frame.enter Try.prog 46 #[bq mb,C.tp i] .normal) (c :: b₀.at a₀ (.inRegion ops₀ (i₀ :: rest₀) :: k₀) :: cs)) V')
   {b : Frame} {a : Act} {ops : Array Oper} {j : Nat} {rest : List Nat} {k : List Item} {v : Value} (hf : TwB (C.tp i) mb lg (b.at a (.inRegion ops (j :: rest) :: k))) :
   Will Try.prog main Z Stop (G (b.at (a.put ((ops[j]?).bind (·.dst)) v) (.inRegion ops rest :: k)) (b₀.at a₀ (.inRegion ops₀ (i₀ :: rest₀) :: k₀) :: cs)) V:=by
 obtain ⟨T,⟨hs,t0,t1,t2⟩,e⟩:=hf
 obtain ⟨rfl,e2,e3⟩:=at_inj e
 obtain ⟨rfl,e4,rfl⟩:=item_inj e2
 obtain ⟨rfl,rfl⟩:=List.cons.inj e4
 rw [e3]
 have hd : ((ops126b[1]?).bind (·.dst)) = some 7:=by simp only [RA126,ops126a,RB126,ops126b,R2w,R3w,B126,nva,nvb,rops,Try.f126,Option.getD_some]; rfl
 rw [hd]
 clear e e2 e3 e4 hd
 have RW:=fun (T : Array Value) (kt : List Item) (cs0 : List Frame)=>tw_r2 (main:=main) (Z:=Z) (Stop:=Stop) (T:=T) (kt:=kt) (cs0:=cs0) (mb:=mb) hn hi H hlg hlt hrow hm
 clear H hlg hrow
 have hRB : RB126 = .seq R2w R3w:=by simp only [RA126,ops126a,RB126,ops126b,R2w,R3w,B126,nva,nvb,rops,Try.f126,Option.getD_some]
 rw [hRB]
 obtain ⟨K,hK,hV,key,yek⟩:=kKV (L:=Lone) (J:=fun g=>Will Try.prog main Z Stop g V) mu_will (muv_will hn)
 refine key _ ?_
 refine mu_region_end hK ?_
 refine mu_seq hK ?_
 refine yek _ ?_
 clear hK hV key yek K
 refine RW _ _ _ ⟨by simp [Act.put,hs],?_,?_,?_⟩ fun T' V' lv' hT' hn' h1 h2 h3 h4 h5=>?_
 · simpa [Act.put] using t0
 · simpa [Act.put] using t1
 · simpa [Act.put] using t2
 have K':=K V' lv' hn' h1 h2 h3 h4 h5
 clear K RW h1 h2 h3 h4 h5 hs t0 t1 t2 T
 obtain ⟨hs,t0,t1,t2⟩:=hT'
 unfold bq at t1 t2 K'
 simp only [Cw.tp] at t0 K'
 rename Array Value=>T
 obtain ⟨v0,v1,v2,v3,v4,v5,v6,v7,v8,v9,v10,v11,v12,v13,v14,rfl⟩:=array15 T hs
 simp only [List.getElem?_toArray,List.getElem?_cons_zero,List.getElem?_cons_succ,Option.some.injEq] at t0 t1 t2
 subst t0 t1 t2
 simp only [RA126,ops126a,RB126,ops126b,R2w,R3w,B126,nva,nvb,rops,Try.f126,Option.getD_some]
 obtain ⟨K,hK,hV,key,yek⟩:=kKV (L:=Lone) (J:=fun g=>Will Try.prog main Z Stop g V') mu_will (muv_will hn')
 refine key _ ?_
 repeat (first|(with_reducible first|refine mu_seq hK ?_|refine mu_skip hK ?_|(refine mu_region_end hK ?_;try subst hkk)|refine mu_block hK ?_|refine mu_inBlock hK ?_|refine mu_ret hK ?_|refine mu_end hK ?_)|refine mu_exit hK rfl ?_|(with_reducible refine mu_regionH hK (fun kk hkk=>?_);simp only [List.size_toArray,List.length_cons,List.length_nil,Nat.reduceAdd,Nat.zero_add,List.range,List.range.loop])|(with_reducible refine mu_cf hK ?_ ?_;(· first|(walk_nrm;done)|(simp [Act.eval];done)))|(with_reducible refine mu_ct hK ?_ ?_;(· first|(walk_nrm;done)|(simp [Act.eval];done)))|(refine mu_unwanted hK rfl rfl ?_;walk_nrm)|(refine muv_val hV rfl (by first|exact .inl rfl|exact .inr rfl) rfl (by kernel_rfl) (fun J hJ=>?_);go_simp;with_reducible refine hJ _ ?_;clear hJ J;walk_nrm))
 refine mu_call hK rfl rfl (by decide) rfl Try.func46 (by kernel_rfl) rfl ?_
 rw [← enter_at (P:=Try.prog) _ Try.func46 rfl]
 walk_nrm
 refine yek _ ?_
 clear hK hV key yek K
 try subst hkk
 refine K' _ fun V2 hn2 KK=>?_
 rw [Frame.finish_at]
 walk_nrm
 obtain ⟨K,hK,hV,key,yek⟩:=kKV (L:=Lone) (J:=fun g=>Will Try.prog main Z Stop g V2) mu_will (muv_will hn2)
 refine key _ ?_
 repeat (first|(with_reducible first|refine mu_seq hK ?_|refine mu_skip hK ?_|(refine mu_region_end hK ?_;try subst hkk)|refine mu_block hK ?_|refine mu_inBlock hK ?_|refine mu_ret hK ?_|refine mu_end hK ?_)|refine mu_exit hK rfl ?_|(with_reducible refine mu_regionH hK (fun kk hkk=>?_);simp only [List.size_toArray,List.length_cons,List.length_nil,Nat.reduceAdd,Nat.zero_add,List.range,List.range.loop])|(with_reducible refine mu_cf hK ?_ ?_;(· first|(walk_nrm;done)|(simp [Act.eval];done)))|(with_reducible refine mu_ct hK ?_ ?_;(· first|(walk_nrm;done)|(simp [Act.eval];done)))|(refine mu_unwanted hK rfl rfl ?_;walk_nrm)|(refine muv_val hV rfl (by first|exact .inl rfl|exact .inr rfl) rfl (by kernel_rfl) (fun J hJ=>?_);go_simp;with_reducible refine hJ _ ?_;clear hJ J;walk_nrm))
 refine mu_leave0 hK rfl rfl Try.func126 rfl ?_
 walk_nrm
 refine yek _ ?_
 clear hK hV key yek K
 exact KK
end
end Go.Proofs.Ytibcdikfbhmheaa

namespace Go.Proofs.Ytibcdikfbhmheaa
open Go Go.Conc Go.Proofs
open Go.ConcN (sumTo upd sumTo_upd upd_ne upd_same)
set_option linter.unusedVariables false
theorem uf_lky {mb mo : Nat} {tp : Value} {f : Frame} (h : LkY mb mo tp f) : UF f:=by
 obtain ⟨T,_,_,_,rfl⟩:=h
 exact uf_at rfl rfl rfl ⟨_,Try.func45⟩
theorem uf_lkr {f : Frame} (h : LkR f) : UF f:=by
 obtain ⟨T,_,rfl⟩:=h
 exact uf_at rfl rfl rfl ⟨_,Try.func45⟩
theorem uf_rsp {mb mo : Nat} {tp : Value} {f : Frame} (h : RsP mb mo tp f) : UF f:=by
 obtain ⟨T,_,_,_,rfl⟩:=h
 exact uf_at rfl rfl rfl ⟨_,Try.func92⟩
theorem uf_twa {mb lg : Nat} {tp : Value} {f : Frame} (h : TwA tp mb lg f) : UF f:=by
 obtain ⟨T,_,rfl⟩:=h
 exact uf_at rfl rfl rfl ⟨_,Try.func126⟩
theorem uf_twb {mb lg : Nat} {tp : Value} {f : Frame} (h : TwB tp mb lg f) : UF f:=by
 obtain ⟨T,_,rfl⟩:=h
 exact uf_at rfl rfl rfl ⟨_,Try.func126⟩
section
variable {C : Cw} {E : Env} {V : World} {i mb lg : Nat} {own : Nat → Prop} {s : Ls} {a₁ : Act} {ops₁ : Array Oper} {i₁ : Nat} {rest₁ : List Nat} {k₁ : List Item} {qv lv : Value}
theorem TwL.has (L : TwL C.n mb lg s own V qv lv) (hown : ∀ b,own b → b < V.heap.size ∧ b ≠ C.cb ∧ ∀ j,j < C.n → b ≠ C.tb j) (hlb : ∀ b,own b → b ≠ C.lb) : ∀ b,own b → ¬ C.has b:=fun b hb h=>by
 rcases h with h | h | ⟨j,hj,h⟩
 · exact (hown b hb).2.1 h
 · exact hlb b hb h
 · exact (hown b hb).2.2 j hj h
theorem q_len (h : Ls.Ok C.n y1 s) : s.q.length ≤ C.n:=nd_len _ _ h.nd fun x hx=>(h.w3 x hx).1
theorem f_len (h : Ls.Ok C.n y1 s) : s.fin.length ≤ C.n:=nd_len _ _ h.fnd fun x hx=>((h.fin x).1 hx).1
theorem tw_got (hi : i < C.n) (L : TwL C.n mb lg s own V qv lv) (hO : Ls.Ok C.n y1 s) (hown : ∀ b,own b → b < V.heap.size ∧ b ≠ C.cb ∧ ∀ j,j < C.n → b ≠ C.tb j) (hlb : ∀ b,own b → b ≠ C.lb) (hn : norm V = V) (H : CwAt C false (upd (Ls.st y1 s) i 1) V) {Rf : Frame}
   (hgo : Ls.go y1 s i = { Ls.come s i with pc:=upd s.pc i 3 }) (hst : Ls.st y1 s i = 0 ∨ Ls.st y1 s i = 1) (how : s.ow = 0 ∨ s.ow = i + 1) {V1 : World} (hV1 : V1 = V.setCell ⟨mb,0 + 1,none⟩ (.int .i64 (i + 1 : Nat)) ∨ (V1 = V ∧ s.ow = i + 1)) {u : Frame} (hu : TwB (C.tp i) mb lg u) :
   TEnd C (Utw C.n mb lg C) s i own V Rf (G (Frame.enter Try.prog 24 #[C.tp i] .normal) (u :: [Rf,rootF])) V1:=by
 have hturn : (Utw C.n mb lg C).turn s i = { Ls.come s i with pc:=upd s.pc i 3 }:=(if_pos hO).trans hgo
 have hok:=Ls.ok_go hO hi hst
 rw [hgo] at hok
 have hmb : ∀ b,C.has b → b ≠ mb:=fun b hb e=>L.has hown hlb mb L.mu.mown (e ▸ hb)
 have hk : ∀ b,b ≠ mb → V1.heap[b]? = V.heap[b]?:=fun b hb=>by
   rcases hV1 with rfl | ⟨rfl,_⟩
   · exact set_off _ _ hb
   · rfl
 have hs1 : V1.heap.size = V.heap.size:=by
   rcases hV1 with rfl | ⟨rfl,_⟩
   · simp [World.setCell]
   · rfl
 have hn1 : norm V1 = V1:=by
   rcases hV1 with rfl | ⟨rfl,_⟩
   · exact norm_set hn _ _
   · exact hn
 have hmu : MuI V1 own mb 0 (i + 1) s.q qv:=by
   rcases hV1 with rfl | ⟨rfl,e⟩
   · exact L.mu.take (i + 1)
   · rw [← e]; exact L.mu
 have hL : TwL C.n mb lg { Ls.come s i with pc:=upd s.pc i 3 } own V1 qv lv :=
   ⟨hmu,by rw [hk _ (fun e=>L.ne e.symm)]; exact L.lgc,row_keep L.row fun b hb=>hk b (fun e=>L.lm (e ▸ hb)),L.lown,L.sep,L.lm,L.ql,L.lo,L.ne⟩
 refine ⟨hn1,by omega,fun b hb ho _=>hk b (fun e=>ho (e ▸ L.mu.mown)),⟨own,?_,fun b hb=>⟨.inl hb,by rw [hs1]; exact (hown b hb).1⟩⟩,?_,.inl ⟨?_,u,[],rfl,?_⟩⟩
 · rw [hturn]; exact ⟨hok,qv,lv,hL⟩
 · rw [hturn]
   refine (H.off fun b hb=>hk b (hmb b hb)).congr fun j hj=>?_
   have:=Ls.st_stay (j:=j) hO hi (by
     rw [hgo]
     rcases how with e | e
     · exact .inr ⟨e,rfl⟩
     · exact .inl e.symm)
   rw [hgo] at this
   exact this
 · rw [hturn]
   show Ls.st y1 { Ls.come s i with pc:=upd s.pc i 3 } i = 1
   refine Ls.st1.2 (.inr (.inr ?_))
   unfold Ls.wi y1
   show 3 ≤ upd s.pc i 3 i ∧ upd s.pc i 3 i < 3 + 1
   rw [upd_same]; omega
 · rw [hturn]
   have e : ({ Ls.come s i with pc:=upd s.pc i 3 } : Ls).pc i = 3:=upd_same _ _ _
   exact ⟨fun h=>by omega,fun h=>by omega,fun h=>by omega,fun _=>⟨u,hu,rfl⟩⟩
theorem tw_queue (hi : i < C.n) (L : TwL C.n mb lg s own V qv lv) (hO : Ls.Ok C.n y1 s) (hown : ∀ b,own b → b < V.heap.size ∧ b ≠ C.cb ∧ ∀ j,j < C.n → b ≠ C.tb j) (hlb : ∀ b,own b → b ≠ C.lb) (hlt : ∀ b,C.has b → b < V.heap.size) (H : CwAt C false (upd (Ls.st y1 s) i 1) V) {Rf : Frame}
   (hpc : s.pc i = 1) (hno : ¬ (s.ow = 0 ∧ s.q = [])) {V1 : World} {v' : Value} (P : Pu V mb 0 qv s.q.length (ints s.q) i V1 v') {f g u : Frame} (hf : RsP mb 0 (C.tp i) f) (hg : LkR g) (hu : TwA (C.tp i) mb lg u) :
   TEnd C (Utw C.n mb lg C) s i own V Rf (G (Frame.enter Try.prog 25 #[C.tp i] .normal) (f :: g :: u :: [Rf,rootF])) V1:=by
 have hst : Ls.st y1 s i = 0 ∨ Ls.st y1 s i = 1:=.inr (Ls.st1.2 (.inl hpc))
 have hgo : Ls.go y1 s i = { s with pc:=upd s.pc i 2,q:=s.q ++ [i] }:=by
   unfold Ls.go
   rw [if_neg (by omega),if_pos hpc,if_neg hno]
 have hturn : (Utw C.n mb lg C).turn s i = { s with pc:=upd s.pc i 2,q:=s.q ++ [i] }:=(if_pos hO).trans hgo
 have hok:=Ls.ok_go hO hi hst
 rw [hgo] at hok
 have hhas:=L.has hown hlb
 have hlg : lg < V.heap.size:=(hown lg L.lo).1
 have hnew : ∀ b,v'.ownBlock = some b → qv.ownBlock = some b ∨ V.heap.size ≤ b:=fun b hb=>by
   rcases P.own with h | ⟨c,h,hc⟩
   · exact .inl (h ▸ hb)
   · rw [h] at hb; obtain rfl:=Option.some.inj hb; exact .inr hc
 have hL : TwL C.n mb lg { s with pc:=upd s.pc i 2,q:=s.q ++ [i] } (fun b=>(own b ∨ V.heap.size ≤ b) ∧ b < V1.heap.size) V1 v' lv:=by
   refine ⟨L.mu.push P (fun b hb=>⟨.inl hb,Nat.lt_of_lt_of_le (hown b hb).1 P.sz⟩) fun b h1 h2=>⟨.inr h1,h2⟩,?_,?_,fun b hb=>⟨.inl (L.lown b hb),Nat.lt_of_lt_of_le (hown b (L.lown b hb)).1 P.sz⟩,fun b hb e=>?_,L.lm,fun e=>?_,⟨.inl L.lo,Nat.lt_of_lt_of_le hlg P.sz⟩,L.ne⟩
   · rw [P.keep lg hlg (fun e=>L.ne e.symm) L.ql]; exact L.lgc
   · exact row_keep L.row fun b hb=>P.keep b (row_at L.row hb) (fun e=>L.lm (e ▸ hb)) (fun e=>L.sep b e hb)
   · rcases hnew b hb with h | h
     · exact L.sep b h e
     · have:=row_at L.row e; omega
   · rcases hnew lg e with h | h
     · exact L.ql h
     · omega
 refine ⟨P.nrm,P.sz,fun b hb ho _=>P.keep b hb (fun e=>ho (e ▸ L.mu.mown)) (fun e=>ho (L.mu.qown b e)),⟨_,?_,fun b hb=>hb⟩,?_,.inr (.inl ⟨?_,f,[g,u],rfl,?_⟩)⟩
 · rw [hturn]; exact ⟨hok,v',lv,hL⟩
 · rw [hturn]
   refine (H.off (P.off (hhas mb L.mu.mown) (fun b hb=>hhas b (L.mu.qown b hb)) hlt)).congr fun j hj=>?_
   have:=Ls.st_stay (j:=j) hO hi (by rw [hgo]; exact .inl rfl)
   rw [hgo] at this
   exact this
 · rw [hturn]
   show Ls.st y1 { s with pc:=upd s.pc i 2,q:=s.q ++ [i] } i = 2
   have how : s.ow ≠ i + 1:=fun e=>by
     rcases hO.w2 i hi e with h1 | h1
     · have:=h1.1; omega
     · omega
   have e : ({ s with pc:=upd s.pc i 2,q:=s.q ++ [i] } : Ls).pc i = 2:=upd_same _ _ _
   unfold Ls.st
   rw [e,if_neg (by omega),if_neg (by omega),if_pos rfl,if_neg how]
 · rw [hturn]
   have e : ({ s with pc:=upd s.pc i 2,q:=s.q ++ [i] } : Ls).pc i = 2:=upd_same _ _ _
   exact ⟨fun h=>by omega,fun h=>by omega,fun _=>⟨f,g,u,hf,hg,hu,rfl⟩,fun h=>by omega⟩
theorem tw_over (hi : i < C.n) (hn1000 : C.n < 1000) (L : TwL C.n mb lg s own V qv lv) (hO : Ls.Ok C.n y1 s) (hown : ∀ b,own b → b < V.heap.size ∧ b ≠ C.cb ∧ ∀ j,j < C.n → b ≠ C.tb j) (hw : Ls.wi y1 s i) {V' V'' : World} {lv' qv' : Value} (h1 : V'.heap[lg]? = some (.cells #[lv'] 23 (0,0))) (h2 : V'.ownsRow 0 3 1 lv' (s.fin.length + 1) (ints s.fin ++ [.int .i64 (i : Int)])) (h3 : V.heap.size ≤ V'.heap.size) (h4 : ∀ b,b < V.heap.size → b ≠ lg → lv.ownBlock ≠ some b → V'.heap[b]? = V.heap[b]?) (h5 : lv'.ownBlock = lv.ownBlock ∨ ∃ b,lv'.ownBlock = some b ∧ V.heap.size ≤ b)
   (U : UnP C (upd (Ls.st y1 s) i 1) V' (fun b=>(own b ∨ V.heap.size ≤ b) ∧ b < V'.heap.size) mb 0 s.q qv V'' qv') (hfar : ∀ b,(own b ∨ V.heap.size ≤ b) ∧ b < V'.heap.size → ¬ C.has b) :
   TEnd C (Utw C.n mb lg C) s i own V ((baseD 141).at a₁ (.inRegion ops₁ (i₁ :: rest₁) :: k₁)) (G ((baseD 141).at (a₁.put ((ops₁[i₁]?).bind (·.dst)) (.tuple #[])) (.inRegion ops₁ rest₁ :: k₁)) [rootF]) V'':=by
 have hp3 : s.pc i = 3:=by
   have:=hw.1; have:=hw.2
   unfold y1 at this; omega
 have hst : Ls.st y1 s i = 0 ∨ Ls.st y1 s i = 1:=.inr (Ls.st1.2 (.inr (.inr hw)))
 have hgo : Ls.go y1 s i = Ls.unlock { s with pc:=upd s.pc i 4 } i:=by
   unfold Ls.go Ls.adv
   rw [if_neg (by omega),if_neg (by omega),if_neg (by omega),hp3]
   exact if_pos rfl
 have hturn : (Utw C.n mb lg C).turn s i = Ls.unlock { s with pc:=upd s.pc i 4 } i:=(if_pos hO).trans hgo
 have hok:=Ls.ok_go hO hi hst
 rw [hgo] at hok
 have how:=hO.w1 i hi hw
 have hiq : i ∉ s.q:=fun hm=>by have:=(hO.w3 i hm).2.1; omega
 have hlg : lg < V.heap.size:=(hown lg L.lo).1
 have hmb : mb < V.heap.size:=(hown mb L.mu.mown).1
 have hown' : ∀ b,lv'.ownBlock = some b → (own b ∨ V.heap.size ≤ b):=fun b hb=>by
   rcases h5 with h | ⟨c,h,hc⟩
   · exact .inl (L.lown b (h ▸ hb))
   · rw [h] at hb; obtain rfl:=Option.some.inj hb; exact .inr hc
 have hoff : ∀ b,(own b ∨ V.heap.size ≤ b) → b < V'.heap.size → b ≠ mb → V''.heap[b]? = V'.heap[b]?:=fun b hb hl hne=>U.keep b hne fun j hj e=>hfar b ⟨hb,hl⟩ (.inr (.inr ⟨j,hj,e⟩))
 have hlm' : lv'.ownBlock ≠ some mb:=fun e=>by
   rcases h5 with h | ⟨c,h,hc⟩
   · exact L.lm (h ▸ e)
   · rw [h] at e; have:=Option.some.inj e; omega
 have hou : (Ls.unlock { s with pc:=upd s.pc i 4 } i).ow = unOw s.q:=by
   show (match s.q with | []=>0 | x :: _=>x + 1) = unOw s.q
   cases s.q <;> rfl
 have hL : TwL C.n mb lg (Ls.unlock { s with pc:=upd s.pc i 4 } i) (fun b=>(own b ∨ V.heap.size ≤ b) ∧ b < V'.heap.size) V'' qv' lv':=by
   refine ⟨by rw [hou]; exact U.mu,?_,?_,fun b hb=>⟨hown' b hb,row_at h2 hb⟩,fun b hb e=>?_,hlm',by rw [U.qo]; exact L.ql,⟨.inl L.lo,by omega⟩,L.ne⟩
   · rw [hoff lg (.inl L.lo) (by omega) (fun e=>L.ne e.symm)]; exact h1
   · have e : (Ls.unlock { s with pc:=upd s.pc i 4 } i).fin = s.fin ++ [i]:=rfl
     rw [e,List.length_append,List.length_singleton,show ints (s.fin ++ [i]) = ints s.fin ++ [.int .i64 (i : Int)] by simp [ints]]
     exact row_keep h2 fun b hb=>hoff b (hown' b hb) (row_at h2 hb) (fun e=>hlm' (e ▸ hb))
   · rw [U.qo] at hb
     rcases h5 with h | ⟨c,h,hc⟩
     · exact L.sep b hb (h ▸ e)
     · rw [h] at e
       obtain rfl:=Option.some.inj e
       have:=(hown c (L.mu.qown c hb)).1
       omega
 refine ⟨U.nrm,by rw [U.sz]; exact h3,fun b hb ho ht=>?_,⟨_,?_,fun b hb=>by rw [U.sz]; exact hb⟩,?_,.inr (.inr ⟨?_,.inl ⟨_,a₁,ops₁,i₁,rest₁,k₁,rfl,rfl⟩⟩)⟩
 · rw [U.keep b (fun e=>ho (e ▸ L.mu.mown)) ht]
   exact h4 b hb (fun e=>ho (e ▸ L.lo)) (fun e=>ho (L.lown b e))
 · rw [hturn]; exact ⟨hok,qv',lv',hL⟩
 · rw [hturn]
   refine U.cw.congr fun j hj=>?_
   have:=Ls.st_leave (j:=j) hO (by rw [hgo]; exact hou) (.inr how) hiq hj
   rw [hgo] at this
   exact this
 · rw [hturn]
   show Ls.st y1 (Ls.unlock { s with pc:=upd s.pc i 4 } i) i = 3
   have e : (Ls.unlock { s with pc:=upd s.pc i 4 } i).pc i = 4:=upd_same _ _ _
   unfold Ls.st y1
   rw [e]; rfl
theorem utw_ok (hO : CwOk E C) (hn1 : C.n < 1000) (hf : ∀ i,i < C.n → C.f i = .func (.func 126) #[] #[bq mb,bq lg]) : UOk E C (Utw C.n mb lg C):=by
 refine UOkS.up ?_ fun _ _ _=>trivial
 have hturn : ∀ (s : Ls) (i : Nat),(Utw C.n mb lg C).turn s i = s ∨ (Ls.Ok C.n y1 s ∧ (Utw C.n mb lg C).turn s i = Ls.go y1 s i):=fun s i=>by
   by_cases h : Ls.Ok C.n y1 s
   · exact .inr ⟨h,if_pos h⟩
   · exact .inl (if_neg h)
 refine ⟨fun σ own V V' A hk hsz=>?_,fun σ i cs h=>?_,fun σ i j cs _ _ hj h=>?_,fun σ i j hi hs hj hji=>?_,fun σ i _=>Ls.st_cases _ _ _,fun σ i hi h=>⟨hf i hi,_,_,Try.func126,by kernel_rfl,rfl⟩,fun σ i own V Rf bx hi hs hRf hn H A hown L hlb=>?_,fun σ i own V Rf bx b a ops i₀ rest k cs hi hs hl hRf hn H A hown L hlb=>?_⟩
 · obtain ⟨h1,qv,lv,h2⟩:=A
   exact ⟨h1,qv,lv,h2.mu.keep hk,by rw [hk _ h2.lo]; exact h2.lgc,row_keep h2.row fun b hb=>hk b (h2.lown b hb),h2.lown,h2.sep,h2.lm,h2.ql,h2.lo,h2.ne⟩
 · obtain ⟨h0,h1,h2,h3⟩:=h
   intro f hf
   rcases (show σ.pc i = 0 ∨ σ.pc i = 1 ∨ σ.pc i = 2 ∨ 3 ≤ σ.pc i by omega) with h | h | h | h
   · exact (h0 h).elim
   · obtain ⟨f1,u,q1,q2,rfl⟩:=h1 h
     simp only [List.mem_cons,List.not_mem_nil,or_false] at hf
     rcases hf with rfl | rfl
     · exact uf_lky q1
     · exact uf_twa q2
   · obtain ⟨f1,g,u,q1,q2,q3,rfl⟩:=h2 h
     simp only [List.mem_cons,List.not_mem_nil,or_false] at hf
     rcases hf with rfl | rfl | rfl
     · exact uf_rsp q1
     · exact uf_lkr q2
     · exact uf_twa q3
   · obtain ⟨u,q1,rfl⟩:=h3 h
     simp only [List.mem_cons,List.not_mem_nil,or_false] at hf
     subst hf
     exact uf_twb q1
 · show TwLoc C mb lg ((Utw C.n mb lg C).turn σ i) j cs
   rcases hturn σ i with e | ⟨_,e⟩
   · rw [e]; exact h
   · rw [e]
     have hp:=Ls.go_pc y1 σ i j hj
     unfold TwLoc
     rw [hp]
     exact h
 · show Ls.st y1 ((Utw C.n mb lg C).turn σ i) j = Ls.st y1 σ j ∨ (Ls.st y1 σ j = 2 ∧ Ls.st y1 ((Utw C.n mb lg C).turn σ i) j = 1)
   rcases hturn σ i with e | ⟨h,e⟩
   · rw [e]; exact .inl rfl
   · rw [e]; exact Ls.go_st h hi hs hj hji
 · obtain ⟨hok,qv,lv,T⟩:=A
   have hs : Ls.st y1 σ i = 0:=hs
   have hpc:=Ls.st0.1 hs
   have hne : σ.ow ≠ i + 1:=fun e=>by
     rcases hok.w2 i hi e with h1 | h1
     · have:=h1.1; omega
     · omega
   refine tw_start hn hi hn1 H T.mu.c1 hne fun f u hf hu=>Will.stop ?_
   have hgo : Ls.go y1 σ i = { σ with pc:=upd σ.pc i 1 }:=by unfold Ls.go; rw [if_pos hpc]
   have ht : (Utw C.n mb lg C).turn σ i = { σ with pc:=upd σ.pc i 1 }:=(if_pos hok).trans hgo
   have hok':=Ls.ok_go hok hi (.inl hs)
   rw [hgo] at hok'
   have e : ({ σ with pc:=upd σ.pc i 1 } : Ls).pc i = 1:=upd_same _ _ _
   refine ⟨hn,Nat.le_refl _,fun _ _ _ _=>rfl,⟨own,?_,fun b hb=>⟨.inl hb,(hown b hb).1⟩⟩,?_,.inl ⟨?_,f,[u],rfl,?_⟩⟩
   · rw [ht]; exact ⟨hok',qv,lv,T.mu,T.lgc,T.row,T.lown,T.sep,T.lm,T.ql,T.lo,T.ne⟩
   · rw [ht]
     refine H.congr fun j hj=>?_
     have:=Ls.st_stay (j:=j) hok hi (by rw [hgo]; exact .inl rfl)
     rw [hgo] at this
     exact this
   · rw [ht]; exact Ls.st1.2 (.inl e)
   · rw [ht]; exact ⟨fun h=>by omega,fun _=>⟨f,u,hf,hu,rfl⟩,fun h=>by omega,fun h=>by omega⟩
 · obtain ⟨hok,qv,lv,T⟩:=A
   have hs : Ls.st y1 σ i = 1:=hs
   have hl : TwLoc C mb lg σ i (b.at a (.inRegion ops (i₀ :: rest) :: k) :: cs):=hl
   have hH : CwAt C false (upd (Ls.st y1 σ) i 1) V:=H.congr fun j hj=>by
     by_cases e : j = i
     · subst e; rw [upd_same]; exact hs
     · rw [upd_ne _ _ e]; rfl
   have hhas:=T.has hown hlb
   have hlt:=has_lt H L (by omega)
   obtain ⟨a₁,ops₁,i₁,rest₁,k₁,eRf,-⟩:=hRf
   subst eRf
   obtain ⟨h0,h1,h2,h3⟩:=hl
   rcases Ls.st1.1 hs with hp | ⟨hp,ho⟩ | hw
   · obtain ⟨f,u,q1,q2,e⟩:=h1 hp
     obtain ⟨e1,rfl⟩:=List.cons.inj e
     subst e1
     obtain ⟨TA,hTA,rfl⟩:=q2
     obtain ⟨vb,vc,rfl⟩:=T.mu.qu.sl
     have hne : σ.ow ≠ i + 1:=fun e=>by
       rcases hok.w2 i hi e with h1 | h1
       · have:=h1.1; omega
       · omega
     refine lock_back hn hi hn1 H L T.mu.c0 T.mu.z0 T.mu.c1 T.mu.z1 T.mu.qu (by have:=q_len hok; omega) T.mu.qmb (hhas mb T.mu.mown) (fun b hb=>hhas b (T.mu.qown b hb)) hne (fun hx=>?_) (fun hx V' v' f1 f2 P hf1 hf2=>?_) q1
     · refine tw_in (norm_set hn _ _) (fun u hu=>Will.stop ?_) ⟨TA,hTA,rfl⟩
       refine tw_got hi T hok hown hlb hn hH ?_ (.inr hs) (.inl hx.1) (.inl rfl) hu
       unfold Ls.go Ls.adv
       rw [if_neg (by omega),if_pos hp,if_pos ⟨hx.1,List.eq_nil_of_length_eq_zero hx.2⟩,if_neg (by unfold y1; omega)]
       rfl
     · exact Will.stop (tw_queue hi T hok hown hlb hlt hH hp (fun h=>hx ⟨h.1,by rw [h.2]; rfl⟩) P hf1 hf2 ⟨TA,hTA,rfl⟩)
   · obtain ⟨f,g,u,q1,q2,q3,e⟩:=h2 hp
     obtain ⟨e1,rfl⟩:=List.cons.inj e
     subst e1
     obtain ⟨TR,hTR,rfl⟩:=q2
     obtain ⟨TA,hTA,rfl⟩:=q3
     refine rest_back hn hi hn1 H T.mu.c1 (fun _=>?_) (fun hx=>absurd ho hx) q1
     refine lock_ret hn ?_ ⟨TR,hTR,rfl⟩
     refine tw_in hn (fun u hu=>Will.stop ?_) ⟨TA,hTA,rfl⟩
     refine tw_got hi T hok hown hlb hn hH ?_ (.inr hs) (.inr ho) (.inr ⟨rfl,ho⟩) hu
     unfold Ls.go Ls.adv
     rw [if_neg (by omega),if_neg (by omega),if_pos hp,if_neg (by unfold y1; omega)]
     rfl
   · obtain ⟨u,q1,e⟩:=h3 hw.1
     obtain ⟨e1,rfl⟩:=List.cons.inj e
     subst e1
     have how:=hok.w1 i hi hw
     have hfl:=f_len hok
     refine tw_end hn hi H T.lgc (fun e=>(hown lg T.lo).2.2 i hi e) T.row (by omega) (fun V' lv' hn' g1 g2 g3 g4 g5 c KK=>?_) q1
     have hmb : mb < V.heap.size:=(hown mb T.mu.mown).1
     have hfar : ∀ b,(own b ∨ V.heap.size ≤ b) ∧ b < V'.heap.size → ¬ C.has b:=fun b hb h=>by
       rcases hb.1 with h1 | h1
       · exact hhas b h1 h
       · have:=hlt b h; omega
     have hcr : ∀ b,C.has b → V'.heap[b]? = V.heap[b]?:=fun b hb=>g4 b (hlt b hb) (fun e=>hhas lg T.lo (e ▸ hb)) (fun e=>hhas b (T.lown b e) hb)
     have hmu : MuI V' (fun b=>(own b ∨ V.heap.size ≤ b) ∧ b < V'.heap.size) mb 0 (i + 1) σ.q qv:=by
       rw [← how]
       have h1 : MuI V' own mb 0 σ.ow σ.q qv:=T.mu.keep2 (g4 mb hmb T.ne (fun e=>T.lm e)) fun b hb=>g4 b (T.mu.qu.at_ hb) (fun e=>T.ql (e ▸ hb)) (T.sep b hb)
       exact h1.grow fun b hb hl=>⟨.inl hb,hl⟩
     refine will_unlock hn' hO.tbi (fun a ha=>hO.cbt ha) hi hn1 (hH.off hcr) (L.off hcr) hmu (fun x hx=>(hok.w3 x hx).1) hfar fun V2 qv2 U=>KK V2 U.nrm (Will.stop ?_)
     exact tw_over hi hn1 T hok hown hw g1 g2 g3 g4 g5 U hfar
end
end Go.Proofs.Ytibcdikfbhmheaa

namespace Go.Proofs.Ytibcdikfbhmheaa
open Go Go.Conc Go.Proofs
open Go.ConcN (sumTo upd sumTo_upd upd_ne upd_same)
set_option linter.unusedVariables false
open Classical in
noncomputable def Ulk (n : Nat) (y : Nat → Nat) (inv : Ls → (Nat → Prop) → World → Prop) (loc : Ls → Nat → List Frame → Prop) (fid : Nat → FuncId) (caps : Nat → Array Value) : Usr:={ S:=Ls,inv:=inv,st:=Ls.st y,loc:=loc,turn:=fun s i=>if Ls.Ok n y s then Ls.go y s i else s,fid:=fid,first:=fun _=>#[],caps:=caps }
namespace Ls
def stp (y : Nat → Nat) (x : Ls × List Nat) (i : Nat) : Ls × List Nat:=if st y x.1 i = 0 ∨ st y x.1 i = 1 then (go y x.1 i,x.2 ++ [i]) else x
def pk (n : Nat) (y : Nat → Nat) (x : Ls × List Nat) (p : Int) : Ls × List Nat:=if n = 0 then x else stp y x (pidx n p)
def rnd (n : Nat) (y : Nat → Nat) (x : Ls × List Nat) : Ls × List Nat:=(List.range n).foldl (stp y) x
def rnds (n : Nat) (y : Nat → Nat) : Nat → Ls × List Nat → Ls × List Nat
 | 0,x=>x
 | m + 1,x=>if (rnd n y x).2.length = x.2.length then rnd n y x else rnds n y m (rnd n y x)
def run (n : Nat) (y : Nat → Nat) (R : Nat) (ps : List Int) : Ls × List Nat:=rnds n y R (ps.foldl (pk n y) (zero,[]))
section
variable {n : Nat} {y : Nat → Nat} {inv : Ls → (Nat → Prop) → World → Prop} {loc : Ls → Nat → List Frame → Prop} {fid : Nat → FuncId} {caps : Nat → Array Value}
theorem foldl_inv {α β : Type} {f g : α → β → α} {P : α → Prop} : ∀ (l : List β) (x : α),(∀ x b,b ∈ l → P x → P (g x b) ∧ f x b = g x b) → P x → P (l.foldl g x) ∧ l.foldl f x = l.foldl g x:=by
 intro l
 induction l with
 | nil=>intro x _ h; exact ⟨h,rfl⟩
 | cons i l ih =>
   intro x hl h
   obtain ⟨h1,h2⟩:=hl x i List.mem_cons_self h
   rw [List.foldl_cons,List.foldl_cons,h2]
   exact ih _ (fun y b hb=>hl y b (List.mem_cons_of_mem _ hb)) h1
theorem stp_ok {x : Ls × List Nat} {i : Nat} (h : Ok n y x.1) (hi : i < n) : Ok n y (stp y x i).1 ∧ Go.Proofs.Ytibcdikfbhmheaa.stp (Ulk n y inv loc fid caps) x i = stp y x i:=by
 by_cases hs : st y x.1 i = 0 ∨ st y x.1 i = 1
 · refine ⟨by unfold stp; rw [if_pos hs]; exact ok_go h hi hs,?_⟩
   have e : (Ulk n y inv loc fid caps).turn x.1 i = go y x.1 i:=if_pos h
   have e2 : stp y x i = (go y x.1 i,x.2 ++ [i]):=if_pos hs
   rw [e2]
   exact (if_pos hs).trans (congrArg (fun z=>(z,x.2 ++ [i])) e)
 · have e2 : stp y x i = x:=if_neg hs
   rw [e2]
   exact ⟨h,if_neg hs⟩
theorem rnd_ok {x : Ls × List Nat} (h : Ok n y x.1) : Ok n y (rnd n y x).1 ∧ Go.Proofs.Ytibcdikfbhmheaa.rnd (Ulk n y inv loc fid caps) n x = rnd n y x :=
 foldl_inv (α:=Ls × List Nat) (P:=fun x=>Ok n y x.1) (f:=Go.Proofs.Ytibcdikfbhmheaa.stp (Ulk n y inv loc fid caps)) (g:=stp y) (List.range n) x (fun x b hb h=>stp_ok h (List.mem_range.1 hb)) h
theorem pk_ok {x : Ls × List Nat} (p : Int) (h : Ok n y x.1) : Ok n y (pk n y x p).1 ∧ Go.Proofs.Ytibcdikfbhmheaa.pk (Ulk n y inv loc fid caps) n x p = pk n y x p:=by
 by_cases hn : n = 0
 · have e1 : pk n y x p = x:=if_pos hn
   rw [e1]
   exact ⟨h,if_pos hn⟩
 · obtain ⟨h1,h2⟩:=stp_ok (inv:=inv) (loc:=loc) (fid:=fid) (caps:=caps) h (pidx_ltL (n:=n) (by omega) p)
   have e1 : pk n y x p = stp y x (pidx n p):=if_neg hn
   rw [e1]
   exact ⟨h1,(if_neg hn).trans h2⟩
theorem pks_ok (ps : List Int) (x : Ls × List Nat) (h : Ok n y x.1) : Ok n y (ps.foldl (pk n y) x).1 ∧ ps.foldl (Go.Proofs.Ytibcdikfbhmheaa.pk (Ulk n y inv loc fid caps) n) x = ps.foldl (pk n y) x :=
 foldl_inv (α:=Ls × List Nat) (P:=fun x=>Ok n y x.1) (f:=Go.Proofs.Ytibcdikfbhmheaa.pk (Ulk n y inv loc fid caps) n) (g:=pk n y) ps x (fun x b hb h=>pk_ok b h) h
theorem rnds_ok : ∀ (R : Nat) (x : Ls × List Nat),Ok n y x.1 → Ok n y (rnds n y R x).1 ∧ Go.Proofs.Ytibcdikfbhmheaa.rnds (Ulk n y inv loc fid caps) n R x = rnds n y R x:=by
 intro R
 induction R with
 | zero=>intro x h; exact ⟨h,rfl⟩
 | succ R ih =>
   intro x h
   obtain ⟨h1,h2⟩:=rnd_ok (inv:=inv) (loc:=loc) (fid:=fid) (caps:=caps) h
   obtain ⟨h3,h4⟩:=ih (rnd n y x) h1
   by_cases he : (rnd n y x).2.length = x.2.length
   · have e1 : rnds n y (R + 1) x = rnd n y x:=if_pos he
     have he' : (Go.Proofs.Ytibcdikfbhmheaa.rnd (Ulk n y inv loc fid caps) n x).2.length = x.2.length:=by rw [h2]; exact he
     rw [e1]
     exact ⟨h1,(if_pos he').trans h2⟩
   · have e1 : rnds n y (R + 1) x = rnds n y R (rnd n y x):=if_neg he
     have he' : ¬ (Go.Proofs.Ytibcdikfbhmheaa.rnd (Ulk n y inv loc fid caps) n x).2.length = x.2.length:=by rw [h2]; exact he
     rw [e1]
     exact ⟨h3,((if_neg he').trans (congrArg (Go.Proofs.Ytibcdikfbhmheaa.rnds (Ulk n y inv loc fid caps) n R) h2)).trans h4⟩
theorem run_ok (R : Nat) (ps : List Int) : Ok n y (run n y R ps).1 ∧ Go.Proofs.Ytibcdikfbhmheaa.rnds (Ulk n y inv loc fid caps) n R (ps.foldl (Go.Proofs.Ytibcdikfbhmheaa.pk (Ulk n y inv loc fid caps) n) (zero,[])) = run n y R ps:=by
 obtain ⟨h1,h2⟩:=pks_ok (inv:=inv) (loc:=loc) (fid:=fid) (caps:=caps) ps (zero,[]) (ok_zero n y)
 obtain ⟨h3,h4⟩:=rnds_ok (inv:=inv) (loc:=loc) (fid:=fid) (caps:=caps) R _ h1
 refine ⟨h3,?_⟩
 exact (congrArg (Go.Proofs.Ytibcdikfbhmheaa.rnds (Ulk n y inv loc fid caps) n R) h2).trans h4
end
end Ls
theorem two_calc : (Ls.run 2 y1 9 [1,1,0,0]).1.fin = [1,0]:=rfl
end Go.Proofs.Ytibcdikfbhmheaa

namespace Go.Proofs.Ytibcdikfbhmheaa
open Go Go.Conc Go.Proofs
open Go.ConcN (sumTo upd sumTo_upd upd_ne upd_same)
set_option linter.unusedVariables false
namespace Ls
section
variable {n i : Nat} {y : Nat → Nat} {s : Ls}
theorem sum_grow {f g : Nat → Nat} : ∀ (n : Nat),(∀ j,j < n → f j ≤ g j) → sumTo n f ≤ sumTo n g:=by
 intro n
 induction n with
 | zero=>intro _; exact Nat.le_refl _
 | succ n ih =>
   intro h
   have h1:=ih fun j hj=>h j (by omega)
   have h2:=h n (by omega)
   simp only [sumTo]
   omega
theorem sum_more {f g : Nat → Nat} : ∀ (n : Nat) (i : Nat),i < n → (∀ j,j < n → f j ≤ g j) → f i + 1 ≤ g i → sumTo n f + 1 ≤ sumTo n g:=by
 intro n
 induction n with
 | zero=>intro i hi; omega
 | succ n ih =>
   intro i hi h hx
   simp only [sumTo]
   by_cases e : i = n
   · subst e
     have h1:=sum_grow i fun j hj=>h j (by omega)
     omega
   · have h1:=ih i (by omega) (fun j hj=>h j (by omega)) hx
     have h2:=h n (by omega)
     omega
theorem go_more (y : Nat → Nat) (s : Ls) (i : Nat) : s.pc i + 1 ≤ (go y s i).pc i:=by
 unfold go adv unlock come
 repeat' split
 all_goals (simp only [upd_same]; try omega)
end
end Ls
end Go.Proofs.Ytibcdikfbhmheaa
