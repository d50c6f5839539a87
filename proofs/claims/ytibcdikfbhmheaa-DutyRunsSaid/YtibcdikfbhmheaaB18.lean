import Derived.Test.YtibcdikfbhmheaaB16
import Derived.Deep.RegionHeld
import Derived.Lib.Hide
set_option linter.unusedSimpArgs false
set_option linter.unusedVariables false
set_option maxRecDepth 100000
set_option maxHeartbeats 4000000
namespace Go.Proofs.Ytibcdikfbhmheaa
open Go Go.Conc Go.Proofs
open Go.ConcN (sumTo upd sumTo_upd upd_ne upd_same)
set_option linter.unusedVariables false
structure Th where
 n : Nat
 acts : Nat → List (Int × Int)
 wp : Nat
 wb : Nat → Nat
 ib : Nat → Nat
 lb : Nat → Nat
 la : Nat → Option Addr
 lc : Nat → Nat
 Vr : World
structure TS where
 at_ : Nat → Nat
 st : Nat → Int
 log : List (Nat × Nat)
def wake (n : Nat) (st : Nat → Int) (x : Int) : Nat → Int:=if 0 ≤ x ∧ x < n ∧ st x.toNat = 2 then upd st x.toNat 1 else st
def TS.note (s : TS) (i p : Nat) : TS:={ s with log:=s.log ++ [(i,p)],at_:=upd s.at_ i (p + 1) }
def TS.set (s : TS) (i : Nat) (x : Int) : TS:={ s with st:=upd s.st i x }
def tgo (n i : Nat) : List (Int × Int) → Nat → TS → TS
 | [],p,s=>s.set i 3
 | (d,x) :: r,p,s =>
   if d = 0 then (s.note i p).set i 1
   else if d = 1 then (s.note i p).set i 2
   else if d = 2 then tgo n i r (p + 1) { s.note i p with st:=wake n s.st x }
   else if d = 4 ∨ d = 5 then (s.note i p).set i 3
   else tgo n i r (p + 1) (s.note i p)
def notes (l : List (Nat × Nat)) : List Value:=l.flatMap fun x=>[.int .i64 (x.1 : Int),.int .i64 (x.2 : Int)]
def cl (x : Int) : Int:=if x = 0 ∨ x = 1 ∨ x = 2 then x else 3
theorem cl_four (x : Int) : cl x = 0 ∨ cl x = 1 ∨ cl x = 2 ∨ cl x = 3:=by
 unfold cl
 split
 · omega
 · omega
theorem cl_two (x : Int) : cl x = 2 ↔ x = 2:=by
 unfold cl
 split <;> omega
theorem cl_one (x : Int) : cl x = 1 ↔ x = 1:=by
 unfold cl
 split <;> omega
theorem cl_zero (x : Int) : cl x = 0 ↔ x = 0:=by
 unfold cl
 split <;> omega
theorem cl_wake (n : Nat) (st : Nat → Int) (x : Int) : (fun j=>cl (wake n st x j)) = wake n (fun j=>cl (st j)) x:=by
 unfold wake
 by_cases h : 0 ≤ x ∧ x < n ∧ st x.toNat = 2
 · rw [if_pos h,if_pos ⟨h.1,h.2.1,(cl_two _).2 h.2.2⟩]
   funext j
   by_cases e : j = x.toNat
   · subst e; rw [upd_same,upd_same]; rfl
   · rw [upd_ne _ _ e,upd_ne _ _ e]
 · rw [if_neg h,if_neg (fun k=>h ⟨k.1,k.2.1,(cl_two _).1 k.2.2⟩)]
structure TInv (D : Th) (s : TS) (own : Nat → Prop) (V : World) : Prop where
 sz : D.Vr.heap.size ≤ V.heap.size
 world : ∃ lv,V.heap[D.wp]? = some (.cells #[lv,.bool false] 37 (0,0)) ∧ V.ownsRow 0 41 2 lv s.log.length (notes s.log) ∧ ∀ b,lv.ownBlock = some b → own b ∧ D.Vr.heap.size ≤ b
 old : ∀ b,b < D.Vr.heap.size → own b ∧ (b ≠ D.wp → V.heap[b]? = D.Vr.heap[b]?)
 cnt : s.log.length = sumTo D.n s.at_
 le : ∀ i,i < D.n → s.at_ i ≤ (D.acts i).length
 z : ∀ i,i < D.n → s.st i = 0 → s.at_ i = 0
structure ThOk (D : Th) : Prop where
 wp : D.wp < D.Vr.heap.size
 wb : ∀ i,i < D.n → D.wb i < D.Vr.heap.size ∧ D.wb i ≠ D.wp ∧ D.Vr.heap[D.wb i]? = some (.cells #[.pointer (some ⟨D.wp,0,none⟩)] 29 (0,0))
 ib : ∀ i,i < D.n → D.ib i < D.Vr.heap.size ∧ D.ib i ≠ D.wp ∧ D.Vr.heap[D.ib i]? = some (.cells #[.int .i64 (i : Int)] 3 (0,0))
 lb : ∀ i,i < D.n → D.lb i < D.Vr.heap.size ∧ D.lb i ≠ D.wp ∧ D.Vr.heap[D.lb i]? = some (.cells #[.slice (D.la i) (D.acts i).length (D.lc i)] 44 (0,0))
 row : ∀ i,i < D.n → 0 < (D.acts i).length → ∃ g o,D.la i = some ⟨g,o,none⟩ ∧ g < D.Vr.heap.size ∧ g ≠ D.wp ∧ ∀ j (hj : j < (D.acts i).length),D.Vr.cell? ⟨g,o + j * 2,none⟩ = some (.int .i64 ((D.acts i)[j]'hj).1) ∧ D.Vr.cell? ⟨g,o + j * 2 + 1,none⟩ = some (.int .i64 ((D.acts i)[j]'hj).2)
 small : sumTo D.n (fun i=>(D.acts i).length) < 1000000000
 len : ∀ i,i < D.n → (D.acts i).length < 1000000000
def bp (b : Nat) : Value:=.pointer (some ⟨b,0,none⟩)
def nct : Code → Code | .cond _ x _=>x | c=>c
def nce : Code → Code | .cond _ _ x=>x | c=>c
noncomputable def B107 : Code:=Try.f107.body.getD .skip
noncomputable def LT : Code:=nvl (nvk (nvb (nvb B107)))
noncomputable def R0t : Code:=nva B107
noncomputable def BBt : Code:=nvk (nva (nvb LT))
noncomputable def R4t : Code:=nva BBt
noncomputable def T5t : Code:=nvb BBt
noncomputable def R3t : Code:=nvb (nvb LT)
noncomputable def SWt : Code:=nvk (nvb (nvb BBt))
noncomputable def ops7t : Array Oper:=rops (nct (nvb SWt))
noncomputable def ops9t : Array Oper:=rops (nct (nvb (nce (nvb SWt))))
noncomputable def kt0 : List Item:=[.inBlock 2,.inBlock 1,.code R3t,.inLoop LT,.inBlock 0]
def HTh (D : Th) (C : Cw) (i : Nat) (T : Array Value) : Prop:=T.size = 74 ∧ T[0]? = some (C.tp i) ∧ T[1]? = some (bp (D.wb i)) ∧ T[2]? = some (bp (D.ib i)) ∧ T[3]? = some (bp (D.lb i))
noncomputable def Uth (D : Th) (C : Cw) : Usr:={ S:=TS,inv:=TInv D,st:=fun s i=>cl (s.st i),loc:=fun s i cs=>∃ T ops p,s.at_ i = p + 1 ∧ (ops = ops7t ∨ ops = ops9t) ∧ HTh D C i T ∧ T[5]? = some (.int .i64 (p : Int)) ∧ cs = [(base 107).at ⟨T,[]⟩ (.inRegion ops [1] :: kt0)],turn:=fun s i=>tgo D.n i ((D.acts i).drop (s.at_ i)) (s.at_ i) s,fid:=fun _=>107,first:=fun _=>#[],caps:=fun i=>#[bp (D.wb i),bp (D.ib i),bp (D.lb i)] }
theorem info41 : (Try.prog.info? 41).map (fun i=>(i.zero,i.size,i.bytes)) = some (some (.agg #[.int .i64 0,.int .i64 0]),2,16):=by kernel_rfl
theorem app_note {w : World} {v : Value} {n : Nat} {xs : List Value} (hrow : w.ownsRow 0 41 2 v n xs) {ad : Nat} {c : Nat} {x y : Int} (hc : w.cell? ⟨ad,0,none⟩ = some (.int .i64 x)) (hc2 : w.cell? ⟨ad,1,none⟩ = some (.int .i64 y)) (hlen : n < 1000000000) :
   ∃ v' w',(Builtin.append_ #[32,32] 32 #[v,.slice (some ⟨ad,0,none⟩) 1 c]).run Try.prog w = .ok v' w' ∧ w'.ownsRow 0 41 2 v' (n + 1) (xs ++ [.int .i64 x,.int .i64 y]) ∧ (w.heap.size ≤ w'.heap.size ∧ ∀ b,b < w.heap.size → v.ownBlock ≠ some b → w'.heap[b]? = w.heap[b]?) ∧ (v'.ownBlock = v.ownBlock ∨ v'.ownBlock = some w.heap.size):=by
 obtain ⟨i0,hi0,hz⟩ : ∃ i0,Try.prog.info? 41 = some i0 ∧ (i0.zero,i0.size,i0.bytes) = (some (.agg #[.int .i64 0,.int .i64 0]),2,16):=by
   have:=info41
   cases e : Try.prog.info? 41 with
   | none=>rw [e] at this; cases this
   | some i0=>rw [e] at this; exact ⟨i0,rfl,by simpa using this⟩
 obtain ⟨hz0,hz1,hz2⟩ : i0.zero = some (.agg #[.int .i64 0,.int .i64 0]) ∧ i0.size = 2 ∧ i0.bytes = 16:=by simpa using hz
 obtain ⟨v',w',h1,h2,h3,_,h5⟩:=run_append_own_at (P:=Try.prog) (w:=w) 0 32 32 41 i0 (.agg #[.int .i64 0,.int .i64 0]) 2 16 Try.underlying32 hi0 hz0 hz1 hz2 rfl (by decide) v n xs hrow ⟨ad,0,none⟩ 1 c [.int .i64 x,.int .i64 y] rfl (fun j u hu=>by
   match j,hu with
   | 0,hu=>simp at hu; subst hu; exact hc
   | 1,hu=>simp at hu; subst hu; exact hc2
   | j + 2,hu=>simp at hu) (by simp [Value.oneCell']) (by simp only [maxLen]; omega) (by omega) (Nat.zero_le _)
 exact ⟨v',w',h1,h2,⟨h3.size,fun b hb hne=>h3.block b hb (fun e=>hne e.symm)⟩,h5⟩
section
variable {C : Cw} {E : Env} {V : World} {st : Nat → Int} {Stop : Goroutine → World → Prop} {b₀ : Frame} {a₀ : Act} {ops₀ : Array Oper} {i₀ : Nat} {rest₀ : List Nat} {k₀ : List Item} {cs0 : List Frame}
theorem wake_go (hO : CwOk E C) (hn64 : C.n ≤ 64) (hn : norm V = V) (H : CwAt C false st V) (L : LsV C V) {i : Nat} (hi : i < C.n) {x : Int}
   (K0 : ∀ V',norm V' = V' → V'.heap.size = V.heap.size → (∀ b,(∀ j,j < C.n → b ≠ C.tb j) → V'.heap[b]? = V.heap[b]?) → CwAt C false (wake C.n st x) V' → Will Try.prog false E.Z Stop (G (b₀.at (a₀.put ((ops₀[i₀]?).bind (·.dst)) (.tuple #[])) (.inRegion ops₀ rest₀ :: k₀)) cs0) V') :
   Will Try.prog false E.Z Stop (G (Frame.enter Try.prog 26 #[C.tp i,.int .i64 x] .normal) (b₀.at a₀ (.inRegion ops₀ (i₀ :: rest₀) :: k₀) :: cs0)) V:=by
 obtain ⟨lb,hl,hlb⟩:=L.l
 obtain rfl:=hlb (by omega)
 have e0 : ∀ τ,(re V τ 0).cell? ⟨C.cb,0,none⟩ = some (.slice (some ⟨C.lb,0,none⟩) C.n C.cap):=fun τ=>by rw [← hl]; exact cell_of H.crew (by simp)
 have e1 : ∀ τ,(re V τ 0).cell? ⟨C.tb i,1,none⟩ = some (.pointer (some ⟨C.cb,0,none⟩)):=fun τ=>H.t1 hi
 have e2 : ∀ τ,(re V τ 0).cell? ⟨C.cb,2,none⟩ = some (.bool false):=fun τ=>H.c2
 rw [enter_at (P:=Try.prog) _ Try.func26 rfl]
 simp only [Try.f26,Cw.tp]
 walk_nrm
 by_cases h1 : x < 0
 · have q1 : decide (x < 0) = true:=decide_eq_true h1
   obtain ⟨K,hK,hV,key,yek⟩:=kKV (L:=Lone) (J:=fun g=>Will Try.prog false E.Z (Stop) g V) mu_will (muv_will hn)
   refine key _ ?_
   repeat (first|(with_reducible first|refine mu_seq hK ?_|refine mu_skip hK ?_|(refine mu_region_end hK ?_;try subst hkk)|refine mu_block hK ?_|refine mu_inBlock hK ?_|refine mu_ret hK ?_|refine mu_end hK ?_)|refine mu_exit hK rfl ?_|(with_reducible refine mu_regionH hK (fun kk hkk=>?_); simp only [List.size_toArray,List.length_cons,List.length_nil,Nat.reduceAdd,Nat.zero_add,List.range,List.range.loop])|(with_reducible refine mu_cf hK ?_ ?_;(· first | (walk_nrm; done) | (simp [Act.eval]; done)))|(with_reducible refine mu_ct hK ?_ ?_;(· first | (walk_nrm; done) | (simp [Act.eval]; done)))|(refine mu_unwanted hK rfl rfl ?_; walk_nrm)|(refine muv_val hV rfl (by first | exact .inl rfl | exact .inr rfl) rfl (by kernel_rfl) (fun J hJ=>?_); go_simp; with_reducible refine hJ _ ?_; clear hJ J; walk_nrm))
   refine mu_leave0 hK rfl rfl Try.func26 rfl ?_
   walk_nrm
   refine yek _ ?_
   clear hK hV key yek K
   refine K0 V hn rfl (fun _ _=>rfl) ?_
   have e : wake C.n st x = st:=if_neg (by omega)
   rw [e]
   exact H
 have q1 : decide (x < 0) = false:=decide_eq_false h1
 by_cases h2 : (C.n : Int) ≤ x
 · have q2 : decide ((C.n : Int) ≤ x) = true:=decide_eq_true h2
   obtain ⟨K,hK,hV,key,yek⟩:=kKV (L:=Lone) (J:=fun g=>Will Try.prog false E.Z (Stop) g V) mu_will (muv_will hn)
   refine key _ ?_
   repeat (first|(with_reducible first|refine mu_seq hK ?_|refine mu_skip hK ?_|(refine mu_region_end hK ?_;try subst hkk)|refine mu_block hK ?_|refine mu_inBlock hK ?_|refine mu_ret hK ?_|refine mu_end hK ?_)|refine mu_exit hK rfl ?_|(with_reducible refine mu_regionH hK (fun kk hkk=>?_); simp only [List.size_toArray,List.length_cons,List.length_nil,Nat.reduceAdd,Nat.zero_add,List.range,List.range.loop])|(with_reducible refine mu_cf hK ?_ ?_;(· first | (walk_nrm; done) | (simp [Act.eval]; done)))|(with_reducible refine mu_ct hK ?_ ?_;(· first | (walk_nrm; done) | (simp [Act.eval]; done)))|(refine mu_unwanted hK rfl rfl ?_; walk_nrm)|(refine muv_val hV rfl (by first | exact .inl rfl | exact .inr rfl) rfl (by kernel_rfl) (fun J hJ=>?_); go_simp; with_reducible refine hJ _ ?_; clear hJ J; walk_nrm))
   refine mu_leave0 hK rfl rfl Try.func26 rfl ?_
   walk_nrm
   refine yek _ ?_
   clear hK hV key yek K
   refine K0 V hn rfl (fun _ _=>rfl) ?_
   have e : wake C.n st x = st:=if_neg (by omega)
   rw [e]
   exact H
 have q2 : decide ((C.n : Int) ≤ x) = false:=decide_eq_false h2
 obtain ⟨m,rfl⟩ : ∃ m : Nat,x = m:=⟨x.toNat,by omega⟩
 have hm : m < C.n:=by omega
 have e9 : ∀ τ,(re V τ 0).cell? ⟨C.lb,m,none⟩ = some (.pointer (some ⟨C.tb m,0,none⟩)):=fun τ=>L.at_ m hm
 have e4 : ∀ τ,(re V τ 0).cell? ⟨C.tb m,4,none⟩ = some (.int .i64 (st m)):=fun τ=>H.t4 hm
 have e5 : ∀ τ,(re V τ 0).frozen? ⟨C.tb m,4,none⟩ = false:=fun τ=>H.f4 hm
 by_cases h3 : st m = 2
 · have q3 : (st m == 2) = true:=by simpa using h3
   obtain ⟨K,hK,hV,key,yek⟩:=kKV (L:=Lone) (J:=fun g=>Will Try.prog false E.Z (Stop) g V) mu_will (muv_will hn)
   refine key _ ?_
   repeat (first|(with_reducible first|refine mu_seq hK ?_|refine mu_skip hK ?_|(refine mu_region_end hK ?_;try subst hkk)|refine mu_block hK ?_|refine mu_inBlock hK ?_|refine mu_ret hK ?_|refine mu_end hK ?_)|refine mu_exit hK rfl ?_|(with_reducible refine mu_regionH hK (fun kk hkk=>?_); simp only [List.size_toArray,List.length_cons,List.length_nil,Nat.reduceAdd,Nat.zero_add,List.range,List.range.loop])|(with_reducible refine mu_cf hK ?_ ?_;(· first | (walk_nrm; done) | (simp [Act.eval]; done)))|(with_reducible refine mu_ct hK ?_ ?_;(· first | (walk_nrm; done) | (simp [Act.eval]; done)))|(refine mu_unwanted hK rfl rfl ?_; walk_nrm)|(refine muv_val hV rfl (by first | exact .inl rfl | exact .inr rfl) rfl (by kernel_rfl) (fun J hJ=>?_); go_simp; with_reducible refine hJ _ ?_; clear hJ J; walk_nrm))
   refine yek _ ?_
   clear hK hV key yek K
   have hn2 : norm (V.setCell ⟨C.tb m,4,none⟩ (.int .i64 1)) = (V.setCell ⟨C.tb m,4,none⟩ (.int .i64 1)):=norm_set hn _ _
   refine mus_put (L:=Lone) (mus_will hn2) (K:=fun g=>Will Try.prog false E.Z (Stop) g V) (K':=fun g=>Will Try.prog false E.Z (Stop) g (V.setCell ⟨C.tb m,4,none⟩ (.int .i64 1))) rfl (.inl rfl) rfl (by kernel_rfl) (fun τ=>?_) ?_
   · go_simp
     rfl
   walk_nrm
   obtain ⟨K,hK,hV,key,yek⟩:=kKV (L:=Lone) (J:=fun g=>Will Try.prog false E.Z (Stop) g (V.setCell ⟨C.tb m,4,none⟩ (.int .i64 1))) mu_will (muv_will hn2)
   refine key _ ?_
   repeat (first|(with_reducible first|refine mu_seq hK ?_|refine mu_skip hK ?_|(refine mu_region_end hK ?_;try subst hkk)|refine mu_block hK ?_|refine mu_inBlock hK ?_|refine mu_ret hK ?_|refine mu_end hK ?_)|refine mu_exit hK rfl ?_|(with_reducible refine mu_regionH hK (fun kk hkk=>?_); simp only [List.size_toArray,List.length_cons,List.length_nil,Nat.reduceAdd,Nat.zero_add,List.range,List.range.loop])|(with_reducible refine mu_cf hK ?_ ?_;(· first | (walk_nrm; done) | (simp [Act.eval]; done)))|(with_reducible refine mu_ct hK ?_ ?_;(· first | (walk_nrm; done) | (simp [Act.eval]; done)))|(refine mu_unwanted hK rfl rfl ?_; walk_nrm)|(refine muv_val hV rfl (by first | exact .inl rfl | exact .inr rfl) rfl (by kernel_rfl) (fun J hJ=>?_); go_simp; with_reducible refine hJ _ ?_; clear hJ J; walk_nrm))
   refine mu_leave0 hK rfl rfl Try.func26 rfl ?_
   walk_nrm
   refine yek _ ?_
   clear hK hV key yek K
   refine K0 _ hn2 (size_setCell _ _ _) (fun b hb=>by rw [setCell_heap,if_neg (hb m hm)]) ?_
   have e : wake C.n st (m : Int) = upd st m 1:=if_pos ⟨by omega,by omega,by simpa using h3⟩
   rw [e]
   exact H.put hO hm 1
 · have q3 : (st m == 2) = false:=by simpa using h3
   obtain ⟨K,hK,hV,key,yek⟩:=kKV (L:=Lone) (J:=fun g=>Will Try.prog false E.Z (Stop) g V) mu_will (muv_will hn)
   refine key _ ?_
   repeat (first|(with_reducible first|refine mu_seq hK ?_|refine mu_skip hK ?_|(refine mu_region_end hK ?_;try subst hkk)|refine mu_block hK ?_|refine mu_inBlock hK ?_|refine mu_ret hK ?_|refine mu_end hK ?_)|refine mu_exit hK rfl ?_|(with_reducible refine mu_regionH hK (fun kk hkk=>?_); simp only [List.size_toArray,List.length_cons,List.length_nil,Nat.reduceAdd,Nat.zero_add,List.range,List.range.loop])|(with_reducible refine mu_cf hK ?_ ?_;(· first | (walk_nrm; done) | (simp [Act.eval]; done)))|(with_reducible refine mu_ct hK ?_ ?_;(· first | (walk_nrm; done) | (simp [Act.eval]; done)))|(refine mu_unwanted hK rfl rfl ?_; walk_nrm)|(refine muv_val hV rfl (by first | exact .inl rfl | exact .inr rfl) rfl (by kernel_rfl) (fun J hJ=>?_); go_simp; with_reducible refine hJ _ ?_; clear hJ J; walk_nrm))
   refine mu_leave0 hK rfl rfl Try.func26 rfl ?_
   walk_nrm
   refine yek _ ?_
   clear hK hV key yek K
   refine K0 V hn rfl (fun _ _=>rfl) ?_
   have e : wake C.n st (m : Int) = st:=if_neg (fun h=>h3 (by simpa using h.2.2))
   rw [e]
   exact H
end
end Go.Proofs.Ytibcdikfbhmheaa

namespace Go.Proofs.Ytibcdikfbhmheaa
open Go Go.Conc Go.Proofs
open Go.ConcN (sumTo upd sumTo_upd upd_ne upd_same)
set_option linter.unusedVariables false
theorem array74 (T : Array Value) (h : T.size = 74) : ∃ v0 v1 v2 v3 v4 v5 v6 v7 v8 v9 v10 v11 v12 v13 v14 v15 v16 v17 v18 v19 v20 v21 v22 v23 v24 v25 v26 v27 v28 v29 v30 v31 v32 v33 v34 v35 v36 v37 v38 v39 v40 v41 v42 v43 v44 v45 v46 v47 v48 v49 v50 v51 v52 v53 v54 v55 v56 v57 v58 v59 v60 v61 v62 v63 v64 v65 v66 v67 v68 v69 v70 v71 v72 v73 : Value,T = #[v0,v1,v2,v3,v4,v5,v6,v7,v8,v9,v10,v11,v12,v13,v14,v15,v16,v17,v18,v19,v20,v21,v22,v23,v24,v25,v26,v27,v28,v29,v30,v31,v32,v33,v34,v35,v36,v37,v38,v39,v40,v41,v42,v43,v44,v45,v46,v47,v48,v49,v50,v51,v52,v53,v54,v55,v56,v57,v58,v59,v60,v61,v62,v63,v64,v65,v66,v67,v68,v69,v70,v71,v72,v73]:=by
 obtain ⟨l⟩:=T
 simp only [List.size_toArray] at h
 rcases l with _ | ⟨v0,l⟩
 · simp at h
 rcases l with _ | ⟨v1,l⟩
 · simp at h
 rcases l with _ | ⟨v2,l⟩
 · simp at h
 rcases l with _ | ⟨v3,l⟩
 · simp at h
 rcases l with _ | ⟨v4,l⟩
 · simp at h
 rcases l with _ | ⟨v5,l⟩
 · simp at h
 rcases l with _ | ⟨v6,l⟩
 · simp at h
 rcases l with _ | ⟨v7,l⟩
 · simp at h
 rcases l with _ | ⟨v8,l⟩
 · simp at h
 rcases l with _ | ⟨v9,l⟩
 · simp at h
 rcases l with _ | ⟨v10,l⟩
 · simp at h
 rcases l with _ | ⟨v11,l⟩
 · simp at h
 rcases l with _ | ⟨v12,l⟩
 · simp at h
 rcases l with _ | ⟨v13,l⟩
 · simp at h
 rcases l with _ | ⟨v14,l⟩
 · simp at h
 rcases l with _ | ⟨v15,l⟩
 · simp at h
 rcases l with _ | ⟨v16,l⟩
 · simp at h
 rcases l with _ | ⟨v17,l⟩
 · simp at h
 rcases l with _ | ⟨v18,l⟩
 · simp at h
 rcases l with _ | ⟨v19,l⟩
 · simp at h
 rcases l with _ | ⟨v20,l⟩
 · simp at h
 rcases l with _ | ⟨v21,l⟩
 · simp at h
 rcases l with _ | ⟨v22,l⟩
 · simp at h
 rcases l with _ | ⟨v23,l⟩
 · simp at h
 rcases l with _ | ⟨v24,l⟩
 · simp at h
 rcases l with _ | ⟨v25,l⟩
 · simp at h
 rcases l with _ | ⟨v26,l⟩
 · simp at h
 rcases l with _ | ⟨v27,l⟩
 · simp at h
 rcases l with _ | ⟨v28,l⟩
 · simp at h
 rcases l with _ | ⟨v29,l⟩
 · simp at h
 rcases l with _ | ⟨v30,l⟩
 · simp at h
 rcases l with _ | ⟨v31,l⟩
 · simp at h
 rcases l with _ | ⟨v32,l⟩
 · simp at h
 rcases l with _ | ⟨v33,l⟩
 · simp at h
 rcases l with _ | ⟨v34,l⟩
 · simp at h
 rcases l with _ | ⟨v35,l⟩
 · simp at h
 rcases l with _ | ⟨v36,l⟩
 · simp at h
 rcases l with _ | ⟨v37,l⟩
 · simp at h
 rcases l with _ | ⟨v38,l⟩
 · simp at h
 rcases l with _ | ⟨v39,l⟩
 · simp at h
 rcases l with _ | ⟨v40,l⟩
 · simp at h
 rcases l with _ | ⟨v41,l⟩
 · simp at h
 rcases l with _ | ⟨v42,l⟩
 · simp at h
 rcases l with _ | ⟨v43,l⟩
 · simp at h
 rcases l with _ | ⟨v44,l⟩
 · simp at h
 rcases l with _ | ⟨v45,l⟩
 · simp at h
 rcases l with _ | ⟨v46,l⟩
 · simp at h
 rcases l with _ | ⟨v47,l⟩
 · simp at h
 rcases l with _ | ⟨v48,l⟩
 · simp at h
 rcases l with _ | ⟨v49,l⟩
 · simp at h
 rcases l with _ | ⟨v50,l⟩
 · simp at h
 rcases l with _ | ⟨v51,l⟩
 · simp at h
 rcases l with _ | ⟨v52,l⟩
 · simp at h
 rcases l with _ | ⟨v53,l⟩
 · simp at h
 rcases l with _ | ⟨v54,l⟩
 · simp at h
 rcases l with _ | ⟨v55,l⟩
 · simp at h
 rcases l with _ | ⟨v56,l⟩
 · simp at h
 rcases l with _ | ⟨v57,l⟩
 · simp at h
 rcases l with _ | ⟨v58,l⟩
 · simp at h
 rcases l with _ | ⟨v59,l⟩
 · simp at h
 rcases l with _ | ⟨v60,l⟩
 · simp at h
 rcases l with _ | ⟨v61,l⟩
 · simp at h
 rcases l with _ | ⟨v62,l⟩
 · simp at h
 rcases l with _ | ⟨v63,l⟩
 · simp at h
 rcases l with _ | ⟨v64,l⟩
 · simp at h
 rcases l with _ | ⟨v65,l⟩
 · simp at h
 rcases l with _ | ⟨v66,l⟩
 · simp at h
 rcases l with _ | ⟨v67,l⟩
 · simp at h
 rcases l with _ | ⟨v68,l⟩
 · simp at h
 rcases l with _ | ⟨v69,l⟩
 · simp at h
 rcases l with _ | ⟨v70,l⟩
 · simp at h
 rcases l with _ | ⟨v71,l⟩
 · simp at h
 rcases l with _ | ⟨v72,l⟩
 · simp at h
 rcases l with _ | ⟨v73,l⟩
 · simp at h
 rcases l with _ | ⟨x,l⟩
 · exact ⟨v0,v1,v2,v3,v4,v5,v6,v7,v8,v9,v10,v11,v12,v13,v14,v15,v16,v17,v18,v19,v20,v21,v22,v23,v24,v25,v26,v27,v28,v29,v30,v31,v32,v33,v34,v35,v36,v37,v38,v39,v40,v41,v42,v43,v44,v45,v46,v47,v48,v49,v50,v51,v52,v53,v54,v55,v56,v57,v58,v59,v60,v61,v62,v63,v64,v65,v66,v67,v68,v69,v70,v71,v72,v73,rfl⟩
 · simp at h
set_option maxHeartbeats 400000 in
theorem id27 (b : Nat) (k : Int) (w : World) (h : w.cell? ⟨b,0,none⟩ = some (.int .i64 k)) : Calls Try.prog 27 #[.pointer (some ⟨b,0,none⟩)] w fun e w'=>e = .returned (.int .i64 k) ∧ w' = w:=by
 go_enter Try.func27,Try.ntmps27
 go_wp2
 go_ret
 exact ⟨rfl,rfl⟩
theorem setCell_self_eq {w : World} {b k : Nat} {v : Value} {c : Array Value} {e : TypeId} {f : Nat × Nat} (h : w.heap[b]? = some (.cells c e f)) (hc : c[k]? = some v) : (w.setCell ⟨b,k,none⟩ v).heap = w.heap:=by
 apply Array.ext_getElem?
 intro x
 rw [setCell_heap]
 split
 · rename_i e1
   simp only at e1
   subst e1
   rw [h]
   simp only [Option.map_some,Option.isSome_none,Bool.false_eq_true,if_false]
   congr 2
   apply Array.ext_getElem?
   intro y
   rw [Array.getElem?_setIfInBounds]
   split
   · rename_i e2
     subst e2
     rw [hc,if_pos (Array.getElem?_eq_some_iff.1 hc).1]
   · rfl
 · rfl
section
variable {C : Cw} {E : Env} {V : World} {D : Th} {s : TS} {own : Nat → Prop} {i p : Nat} {T : Array Value} {kt : List Item} {Stop : Goroutine → World → Prop} {cs0 : List Frame}
def S0 (D : Th) (C : Cw) (i : Nat) (w : World) : Prop:=w.cell? ⟨D.wb i,0,none⟩ = some (.pointer (some ⟨D.wp,0,none⟩)) ∧ w.cell? ⟨D.wp,1,none⟩ = some (.bool false) ∧ w.cell? ⟨C.tb i,0,none⟩ = some (.int .i64 i) ∧ w.cell? ⟨D.ib i,0,none⟩ = some (.int .i64 i)
theorem th_r0 (O : ThOk D) (hn : norm V = V) (I : TInv D s own V) (hi : i < D.n) (hiC : i < C.n) {st : Nat → Int} (H : CwAt C false st V) (hT : HTh D C i T)
   (K : ∀ T',HTh D C i T' → Will Try.prog false E.Z Stop (G ((base 107).at ⟨T',[]⟩ kt) cs0) V) : Will Try.prog false E.Z Stop (G ((base 107).at ⟨T,[]⟩ (.code R0t :: kt)) cs0) V:=by
 obtain ⟨lv,hw,-,-⟩:=I.world
 obtain ⟨b1,b2,b3⟩:=O.wb i hi
 obtain ⟨b4,b5,b6⟩:=O.ib i hi
 have c1 : V.cell? ⟨D.wb i,0,none⟩ = some (.pointer (some ⟨D.wp,0,none⟩)):=cell_of (((I.old _ b1).2 b2).trans b3) (by simp)
 have c2 : V.cell? ⟨D.wp,1,none⟩ = some (.bool false):=cell_of hw (by simp)
 have c3 : V.cell? ⟨C.tb i,0,none⟩ = some (.int .i64 i):=H.t0 hiC
 have c4 : V.cell? ⟨D.ib i,0,none⟩ = some (.int .i64 i):=cell_of (((I.old _ b4).2 b5).trans b6) (by simp)
 obtain ⟨h74,t0,t1,t2,t3⟩:=hT
 refine will_code (L:=Lone) (R:=fun a' V'=>HTh D C i a'.tmps ∧ V' = V) calm rfl ⟨_,Try.func107⟩ rfl (by kernel_rfl) (fun τ=>?_) fun a' V' ⟨h1,h2⟩ ha'=>?_
 · obtain ⟨v0,v1,v2,v3,v4,v5,v6,v7,v8,v9,v10,v11,v12,v13,v14,v15,v16,v17,v18,v19,v20,v21,v22,v23,v24,v25,v26,v27,v28,v29,v30,v31,v32,v33,v34,v35,v36,v37,v38,v39,v40,v41,v42,v43,v44,v45,v46,v47,v48,v49,v50,v51,v52,v53,v54,v55,v56,v57,v58,v59,v60,v61,v62,v63,v64,v65,v66,v67,v68,v69,v70,v71,v72,v73,rfl⟩:=array74 T h74
   simp only [List.getElem?_toArray,List.getElem?_cons_zero,List.getElem?_cons_succ,Option.some.injEq,Cw.tp,bp] at t0 t1 t2 t3
   subst t0 t1 t2 t3
   simp only [R0t,B107,nva,Try.f107,Option.getD_some]
   refine wp_region_held (S:=S0 D C i) (by kernel_rfl) ?_
   simp only [List.size_toArray,List.length_cons,List.length_nil,Nat.reduceAdd,Nat.zero_add,Array.replicate_succ,Array.replicate_zero,List.push_toArray,List.nil_append,List.cons_append]
   generalize hw0 : ({ re V τ 0 with drawn:=(re V τ 0).drawn + 1 } : World) = w0
   have hh : w0.heap = V.heap:=by rw [← hw0]; rfl
   have hS : S0 D C i w0:=by rw [← hw0]; exact ⟨c1,c2,c3,c4⟩
   have hnn : norm w0 = V:=by rw [← hw0]; exact hn
   clear hw0 c1 c2 c3 c4
   refine wpAnyH_take (i:=0) (v:=.pointer (some ⟨D.wp,0,none⟩)) rfl (by kernel_rfl) (by kernel_rfl) (by kernel_rfl) (fun _ _ _ h=>h) (Or.inl ⟨by rfl,fun w5 hS5=>by obtain ⟨x1,x2,x3,x4⟩:=hS5; go_simp⟩) hS ?_
   walk_nrm
   refine wpAnyH_take (i:=1) (v:=.pointer (some ⟨D.wp,0,none⟩)) rfl (by kernel_rfl) (by kernel_rfl) (by kernel_rfl) (fun _ _ _ h=>h) (Or.inl ⟨by rfl,fun w5 hS5=>by obtain ⟨x1,x2,x3,x4⟩:=hS5; go_simp⟩) hS ?_
   walk_nrm
   refine wpAnyH_take (i:=2) (v:=.pointer (some ⟨D.wp,0,none⟩)) rfl (by kernel_rfl) (by kernel_rfl) (by kernel_rfl) (fun _ _ _ h=>h) (Or.inl ⟨by rfl,fun w5 hS5=>by go_simp⟩) hS ?_
   walk_nrm
   refine wpAnyH_take (i:=3) (v:=.pointer (some ⟨D.wp,1,none⟩)) rfl (by kernel_rfl) (by kernel_rfl) (by kernel_rfl) (fun _ _ _ h=>h) (Or.inl ⟨by rfl,fun w5 hS5=>by go_simp⟩) hS ?_
   walk_nrm
   refine wpAnyH_take (i:=4) (v:=.bool false) rfl (by kernel_rfl) (by kernel_rfl) (by kernel_rfl) (fun _ _ _ h=>h) (Or.inl ⟨by rfl,fun w5 hS5=>by obtain ⟨x1,x2,x3,x4⟩:=hS5; go_simp⟩) hS ?_
   walk_nrm
   refine wpAnyH_take (i:=5) (v:=.bool false) rfl (by kernel_rfl) (by kernel_rfl) (by kernel_rfl) (fun _ _ _ h=>h) (Or.inl ⟨by rfl,fun w5 hS5=>by go_simp⟩) hS ?_
   walk_nrm
   refine wpAnyH_take (i:=6) (v:=.pointer (some ⟨C.tb i,0,none⟩)) rfl (by kernel_rfl) (by kernel_rfl) (by kernel_rfl) (fun _ _ _ h=>h) (Or.inl ⟨by rfl,fun w5 hS5=>by go_simp⟩) hS ?_
   walk_nrm
   refine wpAnyH_take (i:=8) (v:=.int .i64 i) rfl (by kernel_rfl) (by kernel_rfl) (by kernel_rfl) (fun _ _ _ h=>h) (Or.inl ⟨by rfl,fun w5 hS5=>by obtain ⟨x1,x2,x3,x4⟩:=hS5; go_simp⟩) hS ?_
   walk_nrm
   have CC : RowKit.Hid (∀ w,S0 D C i w → Calls Try.prog 27 #[.pointer (some ⟨C.tb i,0,none⟩)] w fun e w'=>e = .returned (.int .i64 i) ∧ w' = w):=Lib.hid (fun w h=>id27 _ _ w h.2.2.1)
   refine wpAnyH_ready (rs:=[7]) (by kernel_rfl) (by simp) ?_
   refine AllReadyH.cons rfl (fun K5 hK5=>?_) AllReadyH.nil
   go_simp
   refine (CC.out _ hS).mono ?_
   rintro e w5 ⟨rfl,h5⟩
   have h5':=h5.symm
   subst h5'
   refine hK5.out _ _ hS (fun hS=>?_)
   clear hK5 K5
   walk_nrm
   refine wpAnyH_take (i:=9) (v:=.bool false) rfl (by kernel_rfl) (by kernel_rfl) (by kernel_rfl) (fun _ _ _ h=>h) (Or.inl ⟨by rfl,fun w5 hS5=>by go_simp⟩) hS ?_
   walk_nrm
   refine wpAnyH_take (i:=10) (v:=.bool false) rfl (by kernel_rfl) (by kernel_rfl) (by kernel_rfl) (fun _ _ _ h=>h) (Or.inl ⟨by rfl,fun w5 hS5=>by go_simp⟩) hS ?_
   walk_nrm
   refine wpAnyH_take (i:=11) (v:=.pointer (some ⟨D.wp,0,none⟩)) rfl (by kernel_rfl) (by kernel_rfl) (by kernel_rfl) (fun _ _ _ h=>h) (Or.inl ⟨by rfl,fun w5 hS5=>by go_simp⟩) hS ?_
   walk_nrm
   refine wpAnyH_take (i:=12) (v:=.pointer (some ⟨D.wp,1,none⟩)) rfl (by kernel_rfl) (by kernel_rfl) (by kernel_rfl) (fun _ _ _ h=>h) (Or.inl ⟨by rfl,fun w5 hS5=>by go_simp⟩) hS ?_
   walk_nrm
   have f1 : w0.cell? ⟨D.wp,1,none⟩ = some (.bool false):=hS.2.1
   have hw' : w0.heap[D.wp]? = some (.cells #[lv,.bool false] 37 (0,0)):=by rw [hh]; exact hw
   have f2 : w0.frozen? ⟨D.wp,1,none⟩ = false:=by simp [World.frozen?,hw']
   refine wpAnyH_all (rs:=[13]) (by kernel_rfl) (by simp) (fun i hi=>?_)
   obtain rfl : i = 13:=by simpa using hi
   refine wpOp_skip (w':=w0.setCell ⟨D.wp,1,none⟩ (.bool false)) rfl rfl (by go_simp) ?_
   have he : (w0.setCell ⟨D.wp,1,none⟩ (.bool false)).heap = w0.heap:=setCell_self_eq hw' (by simp)
   have hc : ∀ a,(w0.setCell ⟨D.wp,1,none⟩ (.bool false)).cell? a = w0.cell? a:=fun a=>by unfold World.cell?; rw [he]
   refine ⟨⟨by rw [hc]; exact hS.1,by rw [hc]; exact hS.2.1,by rw [hc]; exact hS.2.2.1,by rw [hc]; exact hS.2.2.2⟩,?_⟩
   walk_nrm
   refine wpAnyH_done (by kernel_rfl) ⟨⟨⟨by simp,rfl,rfl,rfl,rfl⟩,?_⟩,rfl⟩ _
   rw [← hnn]
   exact norm_eq _ _ he rfl rfl
 · obtain ⟨T',df⟩:=a'
   simp only at ha' h1 h2
   subst ha' h2
   exact K T' h1
structure ApN (V W : World) (lv v' : Value) (n : Nat) (xs : List Value) : Prop where
 nrm : norm W = W
 big : V.heap.size ≤ W.heap.size
 keep : ∀ b,b < V.heap.size → lv.ownBlock ≠ some b → W.heap[b]? = V.heap[b]?
 new : ∀ b,v'.ownBlock = some b → lv.ownBlock = some b ∨ V.heap.size ≤ b ∧ b < W.heap.size
 row : W.ownsRow 0 41 2 v' n xs
def S4 (D : Th) (i : Nat) (w : World) : Prop:=w.cell? ⟨D.wb i,0,none⟩ = some (.pointer (some ⟨D.wp,0,none⟩)) ∧ w.cell? ⟨D.ib i,0,none⟩ = some (.int .i64 i)
theorem th_r4 (O : ThOk D) (hn : norm V = V) (I : TInv D s own V) (hi : i < D.n) (hlog : s.log.length < 1000000000) (hT : HTh D C i T) (t5 : T[5]? = some (.int .i64 (p : Int)))
   (K : ∀ T' lv v' W,V.heap[D.wp]? = some (.cells #[lv,.bool false] 37 (0,0)) → (∀ b,lv.ownBlock = some b → own b ∧ D.Vr.heap.size ≤ b) → ApN V W lv v' (s.log.length + 1) (notes s.log ++ [.int .i64 (i : Int),.int .i64 (p : Int)]) → HTh D C i T' → T'[5]? = some (.int .i64 (p : Int)) → Will Try.prog false E.Z Stop (G ((base 107).at ⟨T',[]⟩ kt) cs0) (W.setCell ⟨D.wp,0,none⟩ v')) : Will Try.prog false E.Z Stop (G ((base 107).at ⟨T,[]⟩ (.code R4t :: kt)) cs0) V:=by
 obtain ⟨lv,hw,hrow,hlv⟩:=I.world
 obtain ⟨b1,b2,b3⟩:=O.wb i hi
 obtain ⟨b4,b5,b6⟩:=O.ib i hi
 have hb1:=((I.old _ b1).2 b2).trans b3
 have hb2:=((I.old _ b4).2 b5).trans b6
 have hl1 : D.wb i < V.heap.size:=(Array.getElem?_eq_some_iff.1 hb1).1
 have hl2 : D.ib i < V.heap.size:=(Array.getElem?_eq_some_iff.1 hb2).1
 have hl3 : D.wp < V.heap.size:=(Array.getElem?_eq_some_iff.1 hw).1
 have n1 : lv.ownBlock ≠ some (D.wb i):=fun e=>by have:=(hlv _ e).2; omega
 have n2 : lv.ownBlock ≠ some (D.ib i):=fun e=>by have:=(hlv _ e).2; omega
 have n3 : lv.ownBlock ≠ some D.wp:=fun e=>by have:=(hlv _ e).2; have:=O.wp; omega
 obtain ⟨h74,t0,t1,t2,t3⟩:=hT
 refine will_code (L:=Lone) (R:=fun a' V'=>∃ v' W,HTh D C i a'.tmps ∧ a'.tmps[5]? = some (.int .i64 (p : Int)) ∧ V' = W.setCell ⟨D.wp,0,none⟩ v' ∧ ApN V W lv v' (s.log.length + 1) (notes s.log ++ [.int .i64 (i : Int),.int .i64 (p : Int)])) calm rfl ⟨_,Try.func107⟩ rfl (by kernel_rfl) (fun τ=>?_) fun a' V' ⟨v',W,h1,h2,h3,A⟩ ha'=>?_
 · obtain ⟨v0,v1,v2,v3,v4,v5,v6,v7,v8,v9,v10,v11,v12,v13,v14,v15,v16,v17,v18,v19,v20,v21,v22,v23,v24,v25,v26,v27,v28,v29,v30,v31,v32,v33,v34,v35,v36,v37,v38,v39,v40,v41,v42,v43,v44,v45,v46,v47,v48,v49,v50,v51,v52,v53,v54,v55,v56,v57,v58,v59,v60,v61,v62,v63,v64,v65,v66,v67,v68,v69,v70,v71,v72,v73,rfl⟩:=array74 T h74
   simp only [List.getElem?_toArray,List.getElem?_cons_zero,List.getElem?_cons_succ,Option.some.injEq,Cw.tp,bp] at t0 t1 t2 t3 t5
   subst t0 t1 t2 t3 t5
   simp only [R4t,BBt,LT,B107,nva,nvb,nvk,nvl,Try.f107,Option.getD_some]
   refine wp_region_held (S:=S4 D i) (by kernel_rfl) ?_
   simp only [List.size_toArray,List.length_cons,List.length_nil,Nat.reduceAdd,Nat.zero_add,Array.replicate_succ,Array.replicate_zero,List.push_toArray,List.nil_append,List.cons_append]
   generalize hw0 : ({ re V τ 0 with drawn:=(re V τ 0).drawn + 1 } : World) = w0
   have hh : w0.heap = V.heap:=by rw [← hw0]; rfl
   have hS : S4 D i w0:=⟨cell_of (by rw [hh]; exact hb1) (by simp),cell_of (by rw [hh]; exact hb2) (by simp)⟩
   clear hw0
   refine wpAnyH_take (i:=0) (v:=.pointer (some ⟨D.wp,0,none⟩)) rfl (by kernel_rfl) (by kernel_rfl) (by kernel_rfl) (fun _ _ _ h=>h) (Or.inl ⟨by rfl,fun w5 hS5=>by obtain ⟨x1,x2⟩:=hS5; go_simp⟩) hS ?_
   walk_nrm
   refine wpAnyH_take (i:=1) (v:=.pointer (some ⟨D.wp,0,none⟩)) rfl (by kernel_rfl) (by kernel_rfl) (by kernel_rfl) (fun _ _ _ h=>h) (Or.inl ⟨by rfl,fun w5 hS5=>by obtain ⟨x1,x2⟩:=hS5; go_simp⟩) hS ?_
   walk_nrm
   refine wpAnyH_take (i:=2) (v:=.pointer (some ⟨D.wp,0,none⟩)) rfl (by kernel_rfl) (by kernel_rfl) (by kernel_rfl) (fun _ _ _ h=>h) (Or.inl ⟨by rfl,fun w5 hS5=>by go_simp⟩) hS ?_
   walk_nrm
   refine wpAnyH_take (i:=3) (v:=.pointer (some ⟨D.wp,0,none⟩)) rfl (by kernel_rfl) (by kernel_rfl) (by kernel_rfl) (fun _ _ _ h=>h) (Or.inl ⟨by rfl,fun w5 hS5=>by go_simp⟩) hS ?_
   walk_nrm
   refine wpAnyH_take (i:=5) (v:=.int .i64 i) rfl (by kernel_rfl) (by kernel_rfl) (by kernel_rfl) (fun _ _ _ h=>h) (Or.inl ⟨by rfl,fun w5 hS5=>by obtain ⟨x1,x2⟩:=hS5; go_simp⟩) hS ?_
   walk_nrm
   refine wpAnyH_take (i:=6) (v:=.int .i64 p) rfl (by kernel_rfl) (by kernel_rfl) (by kernel_rfl) (fun _ _ _ h=>h) (Or.inl ⟨by rfl,fun w5 hS5=>by go_simp⟩) hS ?_
   walk_nrm
   refine wpAnyH_take (i:=7) (v:=.agg #[.int .i64 i,.int .i64 p]) rfl (by kernel_rfl) (by kernel_rfl) (by kernel_rfl) (fun _ _ _ h=>h) (Or.inl ⟨by rfl,fun w5 hS5=>by go_simp⟩) hS ?_
   walk_nrm
   obtain ⟨w1,hw1⟩ : ∃ w1,w1 = w0.alloc (.cells #[.int .i64 i,.int .i64 p] 41):=⟨_,rfl⟩
   have s1 : w1.heap.size = V.heap.size + 1:=by rw [hw1,alloc_size,hh]
   have e2 : ∀ b,b < V.heap.size → w1.heap[b]? = V.heap[b]?:=fun b hb=>by rw [hw1,alloc_get,hh,if_neg (by omega)]
   have eN : w1.heap[V.heap.size]? = some (.cells #[.int .i64 i,.int .i64 p] 41):=by rw [hw1,alloc_get,hh,if_pos rfl]
   have e0 : w1.cell? ⟨V.heap.size,0,none⟩ = some (.int .i64 i):=cell_of eN (by simp)
   have e1 : w1.cell? ⟨V.heap.size,1,none⟩ = some (.int .i64 p):=cell_of eN (by simp)
   have hS1 : S4 D i w1:=⟨cell_of ((e2 _ hl1).trans hb1) (by simp),cell_of ((e2 _ hl2).trans hb2) (by simp)⟩
   have g0 : w0.cell? ⟨D.wp,0,none⟩ = some lv:=cell_of (by rw [hh]; exact hw) (by simp)
   have g1 : w1.cell? ⟨D.wp,0,none⟩ = some lv:=cell_of ((e2 _ hl3).trans hw) (by simp)
   obtain ⟨v',w2,a1,a2,a3,a4⟩:=app_note (row_keep hrow fun b hb=>e2 b (row_at hrow hb)) e0 e1 hlog
   obtain ⟨sb,sn,sc,rfl⟩ : ∃ sb sn sc,v' = .slice sb sn sc:=by
     obtain ⟨_,h2⟩:=a2
     rcases h2 with ⟨rfl,_⟩ | ⟨g,cap,cur,rfl,_⟩
     · exact ⟨_,_,_,rfl⟩
     · exact ⟨_,_,_,rfl⟩
   have hk2 : ∀ b,b < V.heap.size → lv.ownBlock ≠ some b → w2.heap[b]? = V.heap[b]?:=fun b hb hne=>by rw [← e2 b hb]; exact a3.2 b (by omega) hne
   have hS2 : S4 D i w2:=⟨cell_of ((hk2 _ hl1 n1).trans hb1) (by simp),cell_of ((hk2 _ hl2 n2).trans hb2) (by simp)⟩
   have hwp2 : w2.heap[D.wp]? = some (.cells #[lv,.bool false] 37 (0,0)):=(hk2 _ hl3 n3).trans hw
   have f1 : w2.cell? ⟨D.wp,0,none⟩ = some lv:=cell_of hwp2 (by simp)
   have f2 : w2.frozen? ⟨D.wp,0,none⟩ = false:=by simp [World.frozen?,hwp2]
   have hS3 : S4 D i (w2.setCell ⟨D.wp,0,none⟩ (.slice sb sn sc)):=⟨cell_of (by rw [setCell_heap,if_neg b2]; exact (hk2 _ hl1 n1).trans hb1) (by simp),cell_of (by rw [setCell_heap,if_neg b5]; exact (hk2 _ hl2 n2).trans hb2) (by simp)⟩
   have A : ApN V (norm w2) lv (.slice sb sn sc) (s.log.length + 1) (notes s.log ++ [.int .i64 (i : Int),.int .i64 (p : Int)]):=⟨rfl,by show V.heap.size ≤ w2.heap.size; have:=a3.1; omega,hk2,fun b hb=>by
     rcases a4 with h | h
     · exact .inl (by rw [← h]; exact hb)
     · right
       rw [h] at hb
       obtain rfl : w1.heap.size = b:=by simpa using hb
       refine ⟨by omega,?_⟩
       obtain ⟨_,h2⟩:=a2
       rcases h2 with ⟨e,_⟩ | ⟨g,cap,cur,e,_,h4,_⟩
       · rw [e] at h; cases h
       · rw [e] at h
         obtain rfl : g = w1.heap.size:=by simpa [Value.ownBlock] using h
         exact (Array.getElem?_eq_some_iff.1 h4).1,a2⟩
   have hnw : w0.heap.size = V.heap.size:=by rw [hh]
   refine wpAnyH_all (rs:=[4,8]) (by kernel_rfl) (by simp) (fun i hi=>?_)
   rcases (show i = 4 ∨ i = 8 by simpa using hi) with rfl | rfl
   · refine wpOp_val (v:=lv) (w':=w0) rfl rfl (by go_simp) ⟨hS,?_⟩
     walk_nrm
     refine wpAnyH_all (rs:=[8]) (by kernel_rfl) (by simp) (fun i hi=>?_)
     obtain rfl : i = 8:=by simpa using hi
     refine wpOp_val (v:=.slice (some ⟨V.heap.size,0,none⟩) 1 1) (w':=w1) rfl rfl (by go_simp) ⟨hS1,?_⟩
     walk_nrm
     refine wpAnyH_all (rs:=[9]) (by kernel_rfl) (by simp) (fun i hi=>?_)
     obtain rfl : i = 9:=by simpa using hi
     refine wpOp_val (v:=.slice sb sn sc) (w':=w2) rfl rfl (run_app_opm (s:=.tmp 29) (x:=.tmp 33) rfl rfl rfl a1) ⟨hS2,?_⟩
     walk_nrm
     refine wpAnyH_take (i:=10) (v:=.pointer (some ⟨D.wp,0,none⟩)) rfl (by kernel_rfl) (by kernel_rfl) (by kernel_rfl) (fun _ _ _ h=>h) (Or.inl ⟨by rfl,fun w5 hS5=>by go_simp⟩) hS2 ?_
     walk_nrm
     refine wpAnyH_take (i:=11) (v:=.pointer (some ⟨D.wp,0,none⟩)) rfl (by kernel_rfl) (by kernel_rfl) (by kernel_rfl) (fun _ _ _ h=>h) (Or.inl ⟨by rfl,fun w5 hS5=>by go_simp⟩) hS2 ?_
     walk_nrm
     refine wpAnyH_all (rs:=[12]) (by kernel_rfl) (by simp) (fun i hi=>?_)
     obtain rfl : i = 12:=by simpa using hi
     refine wpOp_skip (w':=w2.setCell ⟨D.wp,0,none⟩ (.slice sb sn sc)) rfl rfl (by go_simp) ⟨hS3,?_⟩
     walk_nrm
     exact wpAnyH_done (by kernel_rfl) ⟨⟨.slice sb sn sc,norm w2,⟨by simp,rfl,rfl,rfl,rfl⟩,rfl,rfl,A⟩,rfl⟩ _
   · refine wpOp_val (v:=.slice (some ⟨V.heap.size,0,none⟩) 1 1) (w':=w1) rfl rfl (by go_simp) ⟨hS1,?_⟩
     walk_nrm
     refine wpAnyH_all (rs:=[4]) (by kernel_rfl) (by simp) (fun i hi=>?_)
     obtain rfl : i = 4:=by simpa using hi
     refine wpOp_val (v:=lv) (w':=w1) rfl rfl (by go_simp) ⟨hS1,?_⟩
     walk_nrm
     refine wpAnyH_all (rs:=[9]) (by kernel_rfl) (by simp) (fun i hi=>?_)
     obtain rfl : i = 9:=by simpa using hi
     refine wpOp_val (v:=.slice sb sn sc) (w':=w2) rfl rfl (run_app_opm (s:=.tmp 29) (x:=.tmp 33) rfl rfl rfl a1) ⟨hS2,?_⟩
     walk_nrm
     refine wpAnyH_take (i:=10) (v:=.pointer (some ⟨D.wp,0,none⟩)) rfl (by kernel_rfl) (by kernel_rfl) (by kernel_rfl) (fun _ _ _ h=>h) (Or.inl ⟨by rfl,fun w5 hS5=>by go_simp⟩) hS2 ?_
     walk_nrm
     refine wpAnyH_take (i:=11) (v:=.pointer (some ⟨D.wp,0,none⟩)) rfl (by kernel_rfl) (by kernel_rfl) (by kernel_rfl) (fun _ _ _ h=>h) (Or.inl ⟨by rfl,fun w5 hS5=>by go_simp⟩) hS2 ?_
     walk_nrm
     refine wpAnyH_all (rs:=[12]) (by kernel_rfl) (by simp) (fun i hi=>?_)
     obtain rfl : i = 12:=by simpa using hi
     refine wpOp_skip (w':=w2.setCell ⟨D.wp,0,none⟩ (.slice sb sn sc)) rfl rfl (by go_simp) ⟨hS3,?_⟩
     walk_nrm
     exact wpAnyH_done (by kernel_rfl) ⟨⟨.slice sb sn sc,norm w2,⟨by simp,rfl,rfl,rfl,rfl⟩,rfl,rfl,A⟩,rfl⟩ _
 · obtain ⟨T',df⟩:=a'
   simp only at ha' h1 h2
   subst ha' h3
   exact K T' lv v' W hw hlv A h1 h2
end
end Go.Proofs.Ytibcdikfbhmheaa
