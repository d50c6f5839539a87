import Derived.Test.YtibcdikfbhmheaaB18
import Derived.Test.YtibcdikfbhmheaaB22
set_option linter.unusedSimpArgs false
set_option linter.unusedVariables false
set_option maxRecDepth 100000
set_option maxHeartbeats 4000000
namespace Go.Proofs.Ytibcdikfbhmheaa
open Go Go.Conc Go.Proofs
open Go.ConcN (sumTo upd sumTo_upd upd_ne upd_same)
set_option linter.unusedVariables false
theorem one_notes (l : List (Nat × Nat)) : ∀ y ∈ notes l,y.oneCell' = true:=fun y hy=>by
 obtain ⟨a,_,h⟩:=List.mem_flatMap.1 hy
 simp at h
 rcases h with rfl | rfl <;> rfl
theorem slice_ofR {V : World} {e : TypeId} {k : Nat} {v : Value} {n : Nat} {xs : List Value} (h : V.ownsRow 0 e k v n xs) : ∃ b m c,v = .slice b m c:=by
 obtain ⟨_,h2⟩:=h
 rcases h2 with ⟨rfl,_⟩ | ⟨g,cap,cur,rfl,_⟩
 · exact ⟨_,_,_,rfl⟩
 · exact ⟨_,_,_,rfl⟩
end Go.Proofs.Ytibcdikfbhmheaa

namespace Go.Proofs.Ytibcdikfbhmheaa
open Go Go.Conc Go.Proofs
open Go.ConcN (sumTo upd sumTo_upd upd_ne upd_same)
set_option linter.unusedVariables false
theorem array150f (T : Array Value) (h : T.size = 150) : ∃ f : Nat → Value,(∀ i v,T[i]? = some v → f i = v) ∧ T = #[f 0,f 1,f 2,f 3,f 4,f 5,f 6,f 7,f 8,f 9,f 10,f 11,f 12,f 13,f 14,f 15,f 16,f 17,f 18,f 19,f 20,f 21,f 22,f 23,f 24,f 25,f 26,f 27,f 28,f 29,f 30,f 31,f 32,f 33,f 34,f 35,f 36,f 37,f 38,f 39,f 40,f 41,f 42,f 43,f 44,f 45,f 46,f 47,f 48,f 49,f 50,f 51,f 52,f 53,f 54,f 55,f 56,f 57,f 58,f 59,f 60,f 61,f 62,f 63,f 64,f 65,f 66,f 67,f 68,f 69,f 70,f 71,f 72,f 73,f 74,f 75,f 76,f 77,f 78,f 79,f 80,f 81,f 82,f 83,f 84,f 85,f 86,f 87,f 88,f 89,f 90,f 91,f 92,f 93,f 94,f 95,f 96,f 97,f 98,f 99,f 100,f 101,f 102,f 103,f 104,f 105,f 106,f 107,f 108,f 109,f 110,f 111,f 112,f 113,f 114,f 115,f 116,f 117,f 118,f 119,f 120,f 121,f 122,f 123,f 124,f 125,f 126,f 127,f 128,f 129,f 130,f 131,f 132,f 133,f 134,f 135,f 136,f 137,f 138,f 139,f 140,f 141,f 142,f 143,f 144,f 145,f 146,f 147,f 148,f 149]:=by
 refine ⟨fun i=>T.getD i undef,fun i v hv=>by simp [Array.getD_eq_getD_getElem?,hv],?_⟩
 generalize hf : (fun i=>T.getD i undef) = f
 have e : T.toList = (List.range 150).map f:=by
   apply List.ext_getElem?
   intro i
   rw [List.getElem?_map,Array.getElem?_toList]
   by_cases hi : i < 150
   · rw [List.getElem?_range hi,Option.map_some,← hf]
     simp [Array.getD_eq_getD_getElem?,Array.getElem?_eq_getElem (show i < T.size by omega)]
   · rw [List.getElem?_eq_none (by simp; omega),Array.getElem?_eq_none (by omega)]
     rfl
 have e2 : (List.range 150).map f = [f 0,f 1,f 2,f 3,f 4,f 5,f 6,f 7,f 8,f 9,f 10,f 11,f 12,f 13,f 14,f 15,f 16,f 17,f 18,f 19,f 20,f 21,f 22,f 23,f 24,f 25,f 26,f 27,f 28,f 29,f 30,f 31,f 32,f 33,f 34,f 35,f 36,f 37,f 38,f 39,f 40,f 41,f 42,f 43,f 44,f 45,f 46,f 47,f 48,f 49,f 50,f 51,f 52,f 53,f 54,f 55,f 56,f 57,f 58,f 59,f 60,f 61,f 62,f 63,f 64,f 65,f 66,f 67,f 68,f 69,f 70,f 71,f 72,f 73,f 74,f 75,f 76,f 77,f 78,f 79,f 80,f 81,f 82,f 83,f 84,f 85,f 86,f 87,f 88,f 89,f 90,f 91,f 92,f 93,f 94,f 95,f 96,f 97,f 98,f 99,f 100,f 101,f 102,f 103,f 104,f 105,f 106,f 107,f 108,f 109,f 110,f 111,f 112,f 113,f 114,f 115,f 116,f 117,f 118,f 119,f 120,f 121,f 122,f 123,f 124,f 125,f 126,f 127,f 128,f 129,f 130,f 131,f 132,f 133,f 134,f 135,f 136,f 137,f 138,f 139,f 140,f 141,f 142,f 143,f 144,f 145,f 146,f 147,f 148,f 149]:=rfl
 rw [e2] at e
 rw [← Array.toArray_toList (xs:=T),e]
noncomputable def B76 : Code:=Try.f76.body.getD .skip
noncomputable def X6t : Code:=nvb (nvb (nvb (nvb (nvb (nvb B76)))))
noncomputable def TL : Code:=nvl (nvk (nva X6t))
noncomputable def TZ : Code:=nvb X6t
noncomputable def T1t : Code:=nvk (nvb TL)
noncomputable def R8t : Code:=nva T1t
noncomputable def R9t : Code:=nva (nvb T1t)
noncomputable def TY : Code:=nvb (nvb T1t)
def HT9 (T : Array Value) (i sb rb : Nat) (av ov pv : Value) : Prop:=T.size = 150 ∧ T[1]? = some (.int .i64 (i : Int)) ∧ T[2]? = some (.pointer (some ⟨sb,0,none⟩)) ∧ T[4]? = some (.pointer (some ⟨rb,0,none⟩)) ∧ T[5]? = some av ∧ T[6]? = some ov ∧ T[7]? = some pv
def S8 (sb g o i n lc ga p h q len rc : Nat) (la : Option Addr) (d y : Int) (w : World) : Prop:=w.cell? ⟨sb,0,none⟩ = some (.slice (some ⟨g,o,none⟩) n lc) ∧ w.cell? ⟨g,o + i,none⟩ = some (.slice (some ⟨h,q,none⟩) len rc) ∧ w.cell? ⟨ga,i,none⟩ = some (.int .i64 (p : Int)) ∧ w.cell? ⟨h,q + p * 2,none⟩ = some (.int .i64 d) ∧ w.cell? ⟨h,q + p * 2 + 1,none⟩ = some (.int .i64 y)
theorem S8.keep {sb g o i n lc ga p h q len rc : Nat} {la : Option Addr} {d y : Int} {w w' : World} (hS : S8 sb g o i n lc ga p h q len rc la d y w) (k : ∀ b,b < w.heap.size → w'.heap[b]? = w.heap[b]?) : S8 sb g o i n lc ga p h q len rc la d y w':=by
 obtain ⟨h0,h1,h2,h3,h4⟩:=hS
 exact ⟨cell_keep h0 (k _ (cell_lt h0)),cell_keep h1 (k _ (cell_lt h1)),cell_keep h2 (k _ (cell_lt h2)),cell_keep h3 (k _ (cell_lt h3)),cell_keep h4 (k _ (cell_lt h4))⟩
def S9 (sb ga i p : Nat) (gv : Value) (l : Array Bool) (w : World) : Prop:=w.cell? ⟨ga,i,none⟩ = some (.int .i64 (p : Int)) ∧ (l.getD 13 false = false → w.cell? ⟨sb,5,none⟩ = some gv)
theorem ap9 {V w : World} {eb : Nat} {gv : Value} {lg : List (Nat × Nat)} (hk : V.heap.size ≤ w.heap.size ∧ ∀ b,b < V.heap.size → w.heap[b]? = V.heap[b]?) (he : w.heap[eb]? = some (.cells #[] 41)) (heb : V.heap.size ≤ eb) (hg : V.ownsRow 0 41 2 gv lg.length (notes lg)) (hl : lg.length < 1000000000) :
   ∃ v w',(Builtin.append_ #[32,32] 32 #[.slice (some ⟨eb,0,none⟩) 0 0,gv]).run Try.prog w = .ok v w' ∧ w'.ownsRow 0 41 2 v lg.length (notes lg) ∧ (V.heap.size ≤ w'.heap.size ∧ ∀ b,b < V.heap.size → w'.heap[b]? = V.heap[b]?) ∧ (∀ b,b < w.heap.size → b ≠ eb → w'.heap[b]? = w.heap[b]?) ∧ w.heap.size ≤ w'.heap.size ∧ ∀ b,v.ownBlock = some b → V.heap.size ≤ b:=by
 have hr : w.ownsRow 0 41 2 gv lg.length (notes lg):=row_keep hg fun b hb=>hk.2 b (row_at hg hb)
 have h0 : w.ownsRow 0 41 2 (.slice (some ⟨eb,0,none⟩) 0 0) 0 []:=⟨rfl,.inr ⟨eb,0,#[],rfl,Nat.zero_le _,he,Nat.le_refl _,Nat.zero_le _,rfl,rfl⟩⟩
 obtain ⟨v,w',a1,a2,a3,a4,a5⟩:=app_row (t:=32) (z:=.agg #[.int .i64 0,.int .i64 0]) (B:=16) Try.underlying32 (by kernel_rfl) rfl (by decide) (by decide) h0 hr (one_notes lg) (by omega)
 rw [List.nil_append,Nat.zero_add] at a2
 have hne : ∀ b,b < w.heap.size → b ≠ eb → w'.heap[b]? = w.heap[b]?:=fun b hb hne=>a4 b hb (fun e=>hne (by simpa [Value.ownBlock] using e.symm))
 refine ⟨v,w',a1,a2,⟨by omega,fun b hb=>?_⟩,hne,a3,fun b hb=>?_⟩
 · rw [hne b (by omega) (by omega)]; exact hk.2 b hb
 · rcases a5 with h | h
   · rw [h] at hb
     obtain rfl : eb = b:=by simpa [Value.ownBlock] using hb
     exact heb
   · rw [h] at hb
     obtain rfl:=Option.some.inj hb
     exact hk.1
theorem ap9b {V w : World} {nb i p : Nat} {v : Value} {lg : List (Nat × Nat)} (hk : V.heap.size ≤ w.heap.size ∧ ∀ b,b < V.heap.size → w.heap[b]? = V.heap[b]?) (he : w.heap[nb]? = some (.cells #[.int .i64 (i : Int),.int .i64 (p : Int)] 41)) (hv : ∀ b,v.ownBlock = some b → V.heap.size ≤ b) (hg : w.ownsRow 0 41 2 v lg.length (notes lg)) (hl : lg.length < 900000000) :
   ∃ v' w',(Builtin.append_ #[32,32] 32 #[v,.slice (some ⟨nb,0,none⟩) 1 1]).run Try.prog w = .ok v' w' ∧ w'.ownsRow 0 41 2 v' (lg.length + 1) (notes (lg ++ [(i,p)])) ∧ (V.heap.size ≤ w'.heap.size ∧ ∀ b,b < V.heap.size → w'.heap[b]? = V.heap[b]?) ∧ ∀ b,v'.ownBlock = some b → V.heap.size ≤ b:=by
 have h0 : w.ownsRow 0 41 2 (.slice (some ⟨nb,0,none⟩) 1 1) 1 (notes [(i,p)]):=⟨rfl,.inr ⟨nb,1,_,rfl,Nat.zero_le _,he,Nat.le_refl _,by simp [maxLen],rfl,rfl⟩⟩
 obtain ⟨v',w',a1,a2,a3,a4,a5⟩:=app_row (t:=32) (z:=.agg #[.int .i64 0,.int .i64 0]) (B:=16) Try.underlying32 (by kernel_rfl) rfl (by decide) (by decide) hg h0 (one_notes _) (by omega)
 rw [show notes lg ++ notes [(i,p)] = notes (lg ++ [(i,p)]) by simp [notes]] at a2
 refine ⟨v',w',a1,a2,⟨by omega,fun b hb=>?_⟩,fun b hb=>?_⟩
 · rw [a4 b (by omega) (fun e=>by have:=hv b e; omega)]; exact hk.2 b hb
 · rcases a5 with h | h
   · rw [h] at hb; exact hv b hb
   · rw [h] at hb
     obtain rfl:=Option.some.inj hb
     exact hk.1
section
variable {V : World} {Z : Cuts} {Post : Value → World → Prop} {n lc i p sb rb g o ga ca h q len rc : Nat} {d y : Int} {ov pv : Value} {T : Array Value} {kt : List Item} {cs0 : List Frame}
theorem t_r8 (hn : norm V = V) (hi : i < n) (hp : p < len) (hS0 : S8 sb g o i n lc ga p h q len rc none d y V) (hT : HT9 T i sb rb (.slice (some ⟨ga,0,none⟩) n ca) ov pv)
   (K : ∀ T' V',HT9 T' i sb rb (.slice (some ⟨ga,0,none⟩) n ca) ov pv → T'[8]? = some (.pointer (some ⟨V.heap.size,0,none⟩)) → norm V' = V' → Kp V V' → V'.heap[V.heap.size]? = some (.cells #[.int .i64 d,.int .i64 y] 203 (0,0)) → To0 Try.prog Post Z V' (G ((base 76).at ⟨T',[]⟩ kt) cs0)) :
   To0 Try.prog Post Z V (G ((base 76).at ⟨T,[]⟩ (.code R8t :: kt)) cs0):=by
 refine To0.walk (will_code (L:=Lone) (R:=fun a' V'=>HT9 a'.tmps i sb rb (.slice (some ⟨ga,0,none⟩) n ca) ov pv ∧ a'.tmps[8]? = some (.pointer (some ⟨V.heap.size,0,none⟩)) ∧ norm V' = V' ∧ Kp V V' ∧ V'.heap[V.heap.size]? = some (.cells #[.int .i64 d,.int .i64 y] 203 (0,0))) calm rfl ⟨_,Try.func76⟩ rfl (by kernel_rfl) (fun τ=>?_) fun a' V' ⟨h1,h2,h3,h4,h5⟩ ha'=>Will.stop ?_)
 · obtain ⟨hs,t1,t2,t4,t5,t6,t7⟩:=hT
   obtain ⟨f,hf,hT⟩:=array150f T hs
   have et1:=hf 1 _ t1
   have et2:=hf 2 _ t2
   have et4:=hf 4 _ t4
   have et5:=hf 5 _ t5
   have et6:=hf 6 _ t6
   have et7:=hf 7 _ t7
   clear hf hs t1 t2 t4 t5 t6 t7
   subst hT
   simp only [et1,et2,et4,et5,et6,et7]
   clear et1 et2 et4 et5 et6 et7
   simp only [R8t,R9t,TY,T1t,TL,TZ,X6t,B76,nva,nvb,nvk,nvl,Try.f76,Option.getD_some]
   refine wp_region_held (S:=S8 sb g o i n lc ga p h q len rc none d y) (by kernel_rfl) ?_
   simp only [List.size_toArray,List.length_cons,List.length_nil,Nat.reduceAdd,Nat.zero_add,Array.replicate_succ,Array.replicate_zero,List.push_toArray,List.nil_append,List.cons_append]
   generalize hw0 : ({ re V τ 0 with drawn:=(re V τ 0).drawn + 1 } : World) = w0
   have hh : w0.heap = V.heap:=by rw [← hw0]; rfl
   have hk0 : ∀ b,b < V.heap.size → w0.heap[b]? = V.heap[b]?:=fun b hb=>by rw [hh]
   have hS : S8 sb g o i n lc ga p h q len rc none d y w0:=hS0.keep hk0
   have q1 : ¬ ((i : Int) < 0):=by omega
   have q2 : ¬ ((n : Int) ≤ (i : Int)):=by omega
   have q3 : ¬ ((p : Int) < 0):=by omega
   have q4 : ¬ ((len : Int) ≤ (p : Int)):=by omega
   clear hw0 hS0
   refine wpAnyH_take (i:=0) (v:=.pointer (some ⟨sb,0,none⟩)) rfl (by kernel_rfl) (by kernel_rfl) (by kernel_rfl) (fun _ _ _ h=>h) (Or.inl ⟨by rfl,fun w5 hS5=>by go_simp⟩) hS ?_
   walk_nrm
   refine wpAnyH_take (i:=1) (v:=.slice (some ⟨g,o,none⟩) n lc) rfl (by kernel_rfl) (by kernel_rfl) (by kernel_rfl) (fun _ _ _ h=>h) (Or.inl ⟨by rfl,fun w5 hS5=>by obtain ⟨x0,x1,x2,x3,x4⟩:=hS5; go_simp⟩) hS ?_
   walk_nrm
   refine wpAnyH_take (i:=2) (v:=.int .i64 (i : Int)) rfl (by kernel_rfl) (by kernel_rfl) (by kernel_rfl) (fun _ _ _ h=>h) (Or.inl ⟨by rfl,fun w5 hS5=>by go_simp⟩) hS ?_
   walk_nrm
   refine wpAnyH_take (i:=3) (v:=.pointer (some ⟨g,o + i,none⟩)) rfl (by kernel_rfl) (by kernel_rfl) (by kernel_rfl) (fun _ _ _ h=>h) (Or.inl ⟨by rfl,fun w5 hS5=>by go_simp⟩) hS ?_
   walk_nrm
   refine wpAnyH_take (i:=4) (v:=.slice (some ⟨h,q,none⟩) len rc) rfl (by kernel_rfl) (by kernel_rfl) (by kernel_rfl) (fun _ _ _ h=>h) (Or.inl ⟨by rfl,fun w5 hS5=>by obtain ⟨x0,x1,x2,x3,x4⟩:=hS5; go_simp⟩) hS ?_
   walk_nrm
   refine wpAnyH_take (i:=5) (v:=.slice (some ⟨ga,0,none⟩) n ca) rfl (by kernel_rfl) (by kernel_rfl) (by kernel_rfl) (fun _ _ _ h=>h) (Or.inl ⟨by rfl,fun w5 hS5=>by go_simp⟩) hS ?_
   walk_nrm
   refine wpAnyH_take (i:=6) (v:=.int .i64 (i : Int)) rfl (by kernel_rfl) (by kernel_rfl) (by kernel_rfl) (fun _ _ _ h=>h) (Or.inl ⟨by rfl,fun w5 hS5=>by go_simp⟩) hS ?_
   walk_nrm
   refine wpAnyH_take (i:=7) (v:=.pointer (some ⟨ga,i,none⟩)) rfl (by kernel_rfl) (by kernel_rfl) (by kernel_rfl) (fun _ _ _ h=>h) (Or.inl ⟨by rfl,fun w5 hS5=>by go_simp⟩) hS ?_
   walk_nrm
   refine wpAnyH_take (i:=8) (v:=.int .i64 (p : Int)) rfl (by kernel_rfl) (by kernel_rfl) (by kernel_rfl) (fun _ _ _ h=>h) (Or.inl ⟨by rfl,fun w5 hS5=>by obtain ⟨x0,x1,x2,x3,x4⟩:=hS5; go_simp⟩) hS ?_
   walk_nrm
   refine wpAnyH_take (i:=9) (v:=.pointer (some ⟨h,q + p * 2,none⟩)) rfl (by kernel_rfl) (by kernel_rfl) (by kernel_rfl) (fun _ _ _ h=>h) (Or.inl ⟨by rfl,fun w5 hS5=>by go_simp⟩) hS ?_
   walk_nrm
   refine wpAnyH_take (i:=10) (v:=.agg #[.int .i64 d,.int .i64 y]) rfl (by kernel_rfl) (by kernel_rfl) (by kernel_rfl) (fun _ _ _ h=>h) (Or.inl ⟨by rfl,fun w5 hS5=>by obtain ⟨x0,x1,x2,x3,x4⟩:=hS5; go_simp⟩) hS ?_
   walk_nrm
   obtain ⟨w1,hw1⟩ : ∃ w1,w1 = w0.alloc (.cells #[.int .i64 0,.int .i64 0] 203):=⟨_,rfl⟩
   have s1 : w1.heap.size = V.heap.size + 1:=by rw [hw1,alloc_size,hh]
   have e2 : ∀ b,b < V.heap.size → w1.heap[b]? = V.heap[b]?:=fun b hb=>by rw [hw1,alloc_get,hh,if_neg (by omega)]
   have eN : w1.heap[V.heap.size]? = some (.cells #[.int .i64 0,.int .i64 0] 203):=by rw [hw1,alloc_get,hh,if_pos rfl]
   have hS1 : S8 sb g o i n lc ga p h q len rc none d y w1:=hS.keep fun b hb=>by rw [hh] at hb; rw [e2 b hb,hk0 b hb]
   have f0 : w1.cell? ⟨V.heap.size,0,none⟩ = some (.int .i64 0):=cell_of eN (by simp)
   have f1 : w1.cell? ⟨V.heap.size,1,none⟩ = some (.int .i64 0):=cell_of eN (by simp)
   have f2 : w1.frozen? ⟨V.heap.size,0,none⟩ = false:=by simp [World.frozen?,eN]
   have f3 : w1.frozen? ⟨V.heap.size,1,none⟩ = false:=by simp [World.frozen?,eN]
   obtain ⟨w2,hw2⟩ : ∃ w2,w2 = (w1.setCell ⟨V.heap.size,0,none⟩ (.int .i64 d)).setCell ⟨V.heap.size,1,none⟩ (.int .i64 y):=⟨_,rfl⟩
   have e3 : ∀ b,b < V.heap.size → w2.heap[b]? = V.heap[b]?:=fun b hb=>by rw [hw2,setCell_heap,if_neg (by show b ≠ V.heap.size; omega),setCell_heap,if_neg (by show b ≠ V.heap.size; omega)]; exact e2 b hb
   have e4 : w2.heap[V.heap.size]? = some (.cells #[.int .i64 d,.int .i64 y] 203 (0,0)):=by
     rw [hw2,setCell_heap,if_pos rfl,setCell_heap,if_pos rfl,eN]
     simp
   have s2 : w2.heap.size = V.heap.size + 1:=by rw [hw2]; simpa [World.setCell] using s1
   have hS2 : S8 sb g o i n lc ga p h q len rc none d y w2:=hS.keep fun b hb=>by rw [hh] at hb; rw [e3 b hb,hk0 b hb]
   have hnw : w0.heap.size = V.heap.size:=by rw [hh]
   refine wpAnyH_all (rs:=[11]) (by kernel_rfl) (by simp) (fun j hj=>?_)
   obtain rfl : j = 11:=by simpa using hj
   refine wpOp_val (v:=.pointer (some ⟨V.heap.size,0,none⟩)) (w':=w1) rfl rfl (by go_simp) ⟨hS1,?_⟩
   walk_nrm
   refine wpAnyH_all (rs:=[12]) (by kernel_rfl) (by simp) (fun j hj=>?_)
   obtain rfl : j = 12:=by simpa using hj
   refine wpOp_skip (w':=w2) rfl rfl (by go_simp) ⟨hS2,?_⟩
   walk_nrm
   exact wpAnyH_done (by kernel_rfl) ⟨⟨⟨by simp,rfl,rfl,rfl,rfl,rfl,rfl⟩,rfl,rfl,⟨by show V.heap.size ≤ w2.heap.size; omega,fun b hb=>e3 b hb⟩,e4⟩,rfl⟩ _
 · obtain ⟨T',df⟩:=a'
   simp only at ha' h1 h2
   subst ha'
   exact K T' V' h1 h2 h3 h4 h5
theorem t_r9 {gv : Value} {lg : List (Nat × Nat)} {t8 : Value} (hn : norm V = V) (hi : i < n) (hgs : ga ≠ sb) (hga : V.cell? ⟨ga,i,none⟩ = some (.int .i64 (p : Int))) (hsb : V.cell? ⟨sb,5,none⟩ = some gv) (hfz : V.frozen? ⟨sb,5,none⟩ = false) (hg : V.ownsRow 0 41 2 gv lg.length (notes lg)) (hl : lg.length < 900000000) (hT : HT9 T i sb rb (.slice (some ⟨ga,0,none⟩) n ca) ov pv) (t8h : T[8]? = some t8)
   (K : ∀ T' V' v',HT9 T' i sb rb (.slice (some ⟨ga,0,none⟩) n ca) ov pv → T'[8]? = some t8 → norm V' = V' → Kp V V' → V'.ownsRow 0 41 2 v' (lg.length + 1) (notes (lg ++ [(i,p)])) → (∀ b,v'.ownBlock = some b → V.heap.size ≤ b) → To0 Try.prog Post Z (V'.setCell ⟨sb,5,none⟩ v') (G ((base 76).at ⟨T',[]⟩ kt) cs0)) :
   To0 Try.prog Post Z V (G ((base 76).at ⟨T,[]⟩ (.code R9t :: kt)) cs0):=by
 refine To0.walk (will_code (L:=Lone) (R:=fun a' V'=>HT9 a'.tmps i sb rb (.slice (some ⟨ga,0,none⟩) n ca) ov pv ∧ a'.tmps[8]? = some t8 ∧ ∃ v' W,V' = W.setCell ⟨sb,5,none⟩ v' ∧ norm W = W ∧ Kp V W ∧ W.ownsRow 0 41 2 v' (lg.length + 1) (notes (lg ++ [(i,p)])) ∧ ∀ b,v'.ownBlock = some b → V.heap.size ≤ b) calm rfl ⟨_,Try.func76⟩ rfl (by kernel_rfl) (fun τ=>?_) fun a' V' ⟨h1,h2,v',W,h3,h4,h5,h6,h7⟩ ha'=>Will.stop ?_)
 · obtain ⟨hs,t1,t2,t4,t5,t6,t7⟩:=hT
   obtain ⟨f,hf,hT⟩:=array150f T hs
   have et1:=hf 1 _ t1
   have et2:=hf 2 _ t2
   have et4:=hf 4 _ t4
   have et5:=hf 5 _ t5
   have et6:=hf 6 _ t6
   have et7:=hf 7 _ t7
   have et8:=hf 8 _ t8h
   clear hf hs t1 t2 t4 t5 t6 t7 t8h
   subst hT
   simp only [et1,et2,et4,et5,et6,et7,et8]
   clear et1 et2 et4 et5 et6 et7 et8
   simp only [R8t,R9t,TY,T1t,TL,TZ,X6t,B76,nva,nvb,nvk,nvl,Try.f76,Option.getD_some]
   have hlb : sb < V.heap.size:=cell_lt hsb
   have hla : ga < V.heap.size:=cell_lt hga
   refine wp_region_g (S9 sb ga i p gv) (by kernel_rfl) ?_
   simp only [List.size_toArray,List.length_cons,List.length_nil,Nat.reduceAdd,Nat.zero_add,Array.replicate_succ,Array.replicate_zero,List.push_toArray,List.nil_append,List.cons_append]
   generalize hw0 : ({ re V τ 0 with drawn:=(re V τ 0).drawn + 1 } : World) = w0
   have hh : w0.heap = V.heap:=by rw [← hw0]; rfl
   have hk0 : V.heap.size ≤ w0.heap.size ∧ ∀ b,b < V.heap.size → w0.heap[b]? = V.heap[b]?:=⟨by rw [hh]; exact Nat.le_refl _,fun b hb=>by rw [hh]⟩
   have SK : ∀ (w : World) (l : Array Bool),(V.heap.size ≤ w.heap.size ∧ ∀ b,b < V.heap.size → w.heap[b]? = V.heap[b]?) → S9 sb ga i p gv l w:=fun w l hk=>⟨cell_keep hga (hk.2 _ hla),fun _=>cell_keep hsb (hk.2 _ hlb)⟩
   have FZ : ∀ (w : World),(V.heap.size ≤ w.heap.size ∧ ∀ b,b < V.heap.size → w.heap[b]? = V.heap[b]?) → w.frozen? ⟨sb,5,none⟩ = false:=fun w hk=>by
     unfold World.frozen? at hfz ⊢
     rw [show w.heap[(⟨sb,5,none⟩ : Addr).block]? = V.heap[sb]? from hk.2 _ hlb]
     exact hfz
   have q1 : ¬ ((i : Int) < 0):=by omega
   have q2 : ¬ ((n : Int) ≤ (i : Int)):=by omega
   have hnw : w0.heap.size = V.heap.size:=by rw [hh]
   clear hw0
   refine wpAnyG_take (i:=1) (v:=.pointer (some ⟨sb,5,none⟩)) rfl (by kernel_rfl) (by kernel_rfl) (by kernel_rfl) (by kernel_rfl) (fun _ _ _ h=>h) (fun l w=>by simp only [S9,set_iff (i:=1) (j:=13) (by decide)]) (Or.inl ⟨by rfl,fun w5 hS5=>by go_simp⟩) (SK _ _ hk0) ?_
   walk_nrm
   refine wpAnyG_take (i:=2) (v:=gv) rfl (by kernel_rfl) (by kernel_rfl) (by kernel_rfl) (by kernel_rfl) (fun _ _ _ h=>h) (fun l w=>by simp only [S9,set_iff (i:=2) (j:=13) (by decide)]) (Or.inl ⟨by rfl,fun w5 hS5=>by obtain ⟨l5,⟨x0,x1⟩,x2,x3⟩:=hS5; have x4:=x1 (reach_off x2 x3 (n:=20) (m:=13) (by kernel_rfl)).1; go_simp⟩) (SK _ _ hk0) ?_
   walk_nrm
   refine wpAnyG_take (i:=4) (v:=.int .i64 (i : Int)) rfl (by kernel_rfl) (by kernel_rfl) (by kernel_rfl) (by kernel_rfl) (fun _ _ _ h=>h) (fun l w=>by simp only [S9,set_iff (i:=4) (j:=13) (by decide)]) (Or.inl ⟨by rfl,fun w5 hS5=>by go_simp⟩) (SK _ _ hk0) ?_
   walk_nrm
   refine wpAnyG_take (i:=5) (v:=.slice (some ⟨ga,0,none⟩) n ca) rfl (by kernel_rfl) (by kernel_rfl) (by kernel_rfl) (by kernel_rfl) (fun _ _ _ h=>h) (fun l w=>by simp only [S9,set_iff (i:=5) (j:=13) (by decide)]) (Or.inl ⟨by rfl,fun w5 hS5=>by go_simp⟩) (SK _ _ hk0) ?_
   walk_nrm
   refine wpAnyG_take (i:=6) (v:=.int .i64 (i : Int)) rfl (by kernel_rfl) (by kernel_rfl) (by kernel_rfl) (by kernel_rfl) (fun _ _ _ h=>h) (fun l w=>by simp only [S9,set_iff (i:=6) (j:=13) (by decide)]) (Or.inl ⟨by rfl,fun w5 hS5=>by go_simp⟩) (SK _ _ hk0) ?_
   walk_nrm
   refine wpAnyG_take (i:=7) (v:=.pointer (some ⟨ga,i,none⟩)) rfl (by kernel_rfl) (by kernel_rfl) (by kernel_rfl) (by kernel_rfl) (fun _ _ _ h=>h) (fun l w=>by simp only [S9,set_iff (i:=7) (j:=13) (by decide)]) (Or.inl ⟨by rfl,fun w5 hS5=>by go_simp⟩) (SK _ _ hk0) ?_
   walk_nrm
   refine wpAnyG_take (i:=8) (v:=.int .i64 (p : Int)) rfl (by kernel_rfl) (by kernel_rfl) (by kernel_rfl) (by kernel_rfl) (fun _ _ _ h=>h) (fun l w=>by simp only [S9,set_iff (i:=8) (j:=13) (by decide)]) (Or.inl ⟨by rfl,fun w5 hS5=>by obtain ⟨l5,⟨x0,x1⟩,x2,x3⟩:=hS5; go_simp⟩) (SK _ _ hk0) ?_
   walk_nrm
   refine wpAnyG_take (i:=9) (v:=.agg #[.int .i64 (i : Int),.int .i64 (p : Int)]) rfl (by kernel_rfl) (by kernel_rfl) (by kernel_rfl) (by kernel_rfl) (fun _ _ _ h=>h) (fun l w=>by simp only [S9,set_iff (i:=9) (j:=13) (by decide)]) (Or.inl ⟨by rfl,fun w5 hS5=>by go_simp⟩) (SK _ _ hk0) ?_
   walk_nrm
   have ALe : ∀ (w : World) (hk : V.heap.size ≤ w.heap.size ∧ ∀ b,b < V.heap.size → w.heap[b]? = V.heap[b]?) (ob : Obj),(V.heap.size ≤ (w.alloc ob).heap.size ∧ ∀ b,b < V.heap.size → (w.alloc ob).heap[b]? = V.heap[b]?):=fun w hk ob=>⟨by rw [alloc_size]; omega,fun b hb=>by rw [alloc_get,if_neg (by omega)]; exact hk.2 b hb⟩
   refine wpAnyG_all (rs:=[0,10]) (by kernel_rfl) (by simp) (fun j hj=>?_)
   rcases (show j = 0 ∨ j = 10 by simpa using hj) with rfl | rfl
   · skip
     obtain ⟨w1,hw1⟩ : ∃ x,x = w0.alloc (.cells #[] 41):=⟨_,rfl⟩
     have k1:=ALe w0 hk0 (.cells #[] 41)
     rw [← hw1] at k1
     have eNw1 : w1.heap[w0.heap.size]? = some (.cells #[] 41):=by rw [hw1,alloc_get,if_pos rfl]
     have eSw1 : w1.heap.size = w0.heap.size + 1:=by rw [hw1,alloc_size]
     have eKw1 : ∀ b,b < w0.heap.size → w1.heap[b]? = w0.heap[b]?:=fun b hb=>by rw [hw1,alloc_get,if_neg (by omega)]
     refine wpOp_val (v:=.slice (some ⟨w0.heap.size,0,none⟩) 0 0) (w':=w1) rfl rfl (by go_simp; first | done | exact ⟨by first | rfl | assumption | (simp only [re]; omega),hw1.symm⟩ | exact hw1.symm) ⟨SK _ _ k1,?_⟩
     walk_nrm
     refine wpAnyG_all (rs:=[3,10]) (by kernel_rfl) (by simp) (fun j hj=>?_)
     rcases (show j = 3 ∨ j = 10 by simpa using hj) with rfl | rfl
     · skip
       obtain ⟨v3,w2,a1,v3r,k2,kx,sx2,v3o⟩:=ap9 k1 eNw1 hk0.1 hg (by omega)
       refine wpOp_val (v:=v3) (w':=w2) rfl rfl (run_app_opm (s:=.tmp 64) (x:=.tmp 66) rfl rfl rfl a1) ⟨SK _ _ k2,?_⟩
       walk_nrm
       refine wpAnyG_all (rs:=[10]) (by kernel_rfl) (by simp) (fun j hj=>?_)
       obtain rfl : j = 10:=by simpa using hj
       obtain ⟨w3,hw3⟩ : ∃ x,x = w2.alloc (.cells #[.int .i64 (i : Int),.int .i64 (p : Int)] 41):=⟨_,rfl⟩
       have k3:=ALe w2 k2 (.cells #[.int .i64 (i : Int),.int .i64 (p : Int)] 41)
       rw [← hw3] at k3
       have eNw3 : w3.heap[w2.heap.size]? = some (.cells #[.int .i64 (i : Int),.int .i64 (p : Int)] 41):=by rw [hw3,alloc_get,if_pos rfl]
       have eSw3 : w3.heap.size = w2.heap.size + 1:=by rw [hw3,alloc_size]
       have eKw3 : ∀ b,b < w2.heap.size → w3.heap[b]? = w2.heap[b]?:=fun b hb=>by rw [hw3,alloc_get,if_neg (by omega)]
       refine wpOp_val (v:=.slice (some ⟨w2.heap.size,0,none⟩) 1 1) (w':=w3) rfl rfl (by go_simp; first | done | exact ⟨by first | rfl | assumption | (simp only [re]; omega),hw3.symm⟩ | exact hw3.symm) ⟨SK _ _ k3,?_⟩
       walk_nrm
       obtain ⟨v4,w4,a2,v4r,k4,v4o⟩:=ap9b k3 eNw3 v3o (row_keep v3r fun b hb=>eKw3 b (row_at v3r hb)) hl
       refine wpAnyG_all (rs:=[11]) (by kernel_rfl) (by simp) (fun j hj=>?_)
       obtain rfl : j = 11:=by simpa using hj
       refine wpOp_val (v:=v4) (w':=w4) rfl rfl (run_app_opm (s:=.tmp 67) (x:=.tmp 74) rfl rfl rfl a2) ⟨SK _ _ k4,?_⟩
       walk_nrm
       refine wpAnyG_take (i:=12) (v:=.pointer (some ⟨sb,5,none⟩)) rfl (by kernel_rfl) (by kernel_rfl) (by kernel_rfl) (by kernel_rfl) (fun _ _ _ h=>h) (fun l w=>by simp only [S9,set_iff (i:=12) (j:=13) (by decide)]) (Or.inl ⟨by rfl,fun w5 hS5=>by go_simp⟩) (SK _ _ k4) ?_
       walk_nrm
       have f1 : w4.cell? ⟨sb,5,none⟩ = some gv:=cell_keep hsb (k4.2 _ hlb)
       have f2:=FZ w4 k4
       refine wpAnyG_all (rs:=[13]) (by kernel_rfl) (by simp) (fun j hj=>?_)
       obtain rfl : j = 13:=by simpa using hj
       obtain ⟨sx,sn,sc,rfl⟩:=slice_ofR v4r
       refine wpOp_skip (w':=w4.setCell ⟨sb,5,none⟩ (.slice sx sn sc)) rfl rfl (by go_simp) ⟨⟨cell_keep hga (by rw [setCell_heap,if_neg hgs]; exact k4.2 _ hla),fun hh=>absurd hh (by decide)⟩,?_⟩
       walk_nrm
       exact wpAnyG_done (by kernel_rfl) ⟨⟨⟨by simp,rfl,rfl,rfl,rfl,rfl,rfl⟩,rfl,.slice sx sn sc,norm w4,rfl,rfl,⟨k4.1,k4.2⟩,v4r,v4o⟩,rfl⟩ _
     · skip
       obtain ⟨w2,hw2⟩ : ∃ x,x = w1.alloc (.cells #[.int .i64 (i : Int),.int .i64 (p : Int)] 41):=⟨_,rfl⟩
       have k2:=ALe w1 k1 (.cells #[.int .i64 (i : Int),.int .i64 (p : Int)] 41)
       rw [← hw2] at k2
       have eNw2 : w2.heap[w1.heap.size]? = some (.cells #[.int .i64 (i : Int),.int .i64 (p : Int)] 41):=by rw [hw2,alloc_get,if_pos rfl]
       have eSw2 : w2.heap.size = w1.heap.size + 1:=by rw [hw2,alloc_size]
       have eKw2 : ∀ b,b < w1.heap.size → w2.heap[b]? = w1.heap[b]?:=fun b hb=>by rw [hw2,alloc_get,if_neg (by omega)]
       refine wpOp_val (v:=.slice (some ⟨w1.heap.size,0,none⟩) 1 1) (w':=w2) rfl rfl (by go_simp; first | done | exact ⟨by first | rfl | assumption | (simp only [re]; omega),hw2.symm⟩ | exact hw2.symm) ⟨SK _ _ k2,?_⟩
       walk_nrm
       obtain ⟨v3,w3,a1,v3r,k3,kx,sx2,v3o⟩:=ap9 k2 ((eKw2 _ (by omega)).trans eNw1) (hk0.1) hg (by omega)
       refine wpAnyG_all (rs:=[3]) (by kernel_rfl) (by simp) (fun j hj=>?_)
       obtain rfl : j = 3:=by simpa using hj
       refine wpOp_val (v:=v3) (w':=w3) rfl rfl (run_app_opm (s:=.tmp 64) (x:=.tmp 66) rfl rfl rfl a1) ⟨SK _ _ k3,?_⟩
       walk_nrm
       obtain ⟨v4,w4,a2,v4r,k4,v4o⟩:=ap9b (nb:=w1.heap.size) k3 (by rw [kx w1.heap.size (by omega) (by omega)]; exact eNw2) v3o v3r hl
       refine wpAnyG_all (rs:=[11]) (by kernel_rfl) (by simp) (fun j hj=>?_)
       obtain rfl : j = 11:=by simpa using hj
       refine wpOp_val (v:=v4) (w':=w4) rfl rfl (run_app_opm (s:=.tmp 67) (x:=.tmp 74) rfl rfl rfl a2) ⟨SK _ _ k4,?_⟩
       walk_nrm
       refine wpAnyG_take (i:=12) (v:=.pointer (some ⟨sb,5,none⟩)) rfl (by kernel_rfl) (by kernel_rfl) (by kernel_rfl) (by kernel_rfl) (fun _ _ _ h=>h) (fun l w=>by simp only [S9,set_iff (i:=12) (j:=13) (by decide)]) (Or.inl ⟨by rfl,fun w5 hS5=>by go_simp⟩) (SK _ _ k4) ?_
       walk_nrm
       have f1 : w4.cell? ⟨sb,5,none⟩ = some gv:=cell_keep hsb (k4.2 _ hlb)
       have f2:=FZ w4 k4
       refine wpAnyG_all (rs:=[13]) (by kernel_rfl) (by simp) (fun j hj=>?_)
       obtain rfl : j = 13:=by simpa using hj
       obtain ⟨sx,sn,sc,rfl⟩:=slice_ofR v4r
       refine wpOp_skip (w':=w4.setCell ⟨sb,5,none⟩ (.slice sx sn sc)) rfl rfl (by go_simp) ⟨⟨cell_keep hga (by rw [setCell_heap,if_neg hgs]; exact k4.2 _ hla),fun hh=>absurd hh (by decide)⟩,?_⟩
       walk_nrm
       exact wpAnyG_done (by kernel_rfl) ⟨⟨⟨by simp,rfl,rfl,rfl,rfl,rfl,rfl⟩,rfl,.slice sx sn sc,norm w4,rfl,rfl,⟨k4.1,k4.2⟩,v4r,v4o⟩,rfl⟩ _
   · skip
     obtain ⟨w1,hw1⟩ : ∃ x,x = w0.alloc (.cells #[.int .i64 (i : Int),.int .i64 (p : Int)] 41):=⟨_,rfl⟩
     have k1:=ALe w0 hk0 (.cells #[.int .i64 (i : Int),.int .i64 (p : Int)] 41)
     rw [← hw1] at k1
     have eNw1 : w1.heap[w0.heap.size]? = some (.cells #[.int .i64 (i : Int),.int .i64 (p : Int)] 41):=by rw [hw1,alloc_get,if_pos rfl]
     have eSw1 : w1.heap.size = w0.heap.size + 1:=by rw [hw1,alloc_size]
     have eKw1 : ∀ b,b < w0.heap.size → w1.heap[b]? = w0.heap[b]?:=fun b hb=>by rw [hw1,alloc_get,if_neg (by omega)]
     refine wpOp_val (v:=.slice (some ⟨w0.heap.size,0,none⟩) 1 1) (w':=w1) rfl rfl (by go_simp; first | done | exact ⟨by first | rfl | assumption | (simp only [re]; omega),hw1.symm⟩ | exact hw1.symm) ⟨SK _ _ k1,?_⟩
     walk_nrm
     refine wpAnyG_all (rs:=[0]) (by kernel_rfl) (by simp) (fun j hj=>?_)
     obtain rfl : j = 0:=by simpa using hj
     obtain ⟨w2,hw2⟩ : ∃ x,x = w1.alloc (.cells #[] 41):=⟨_,rfl⟩
     have k2:=ALe w1 k1 (.cells #[] 41)
     rw [← hw2] at k2
     have eNw2 : w2.heap[w1.heap.size]? = some (.cells #[] 41):=by rw [hw2,alloc_get,if_pos rfl]
     have eSw2 : w2.heap.size = w1.heap.size + 1:=by rw [hw2,alloc_size]
     have eKw2 : ∀ b,b < w1.heap.size → w2.heap[b]? = w1.heap[b]?:=fun b hb=>by rw [hw2,alloc_get,if_neg (by omega)]
     refine wpOp_val (v:=.slice (some ⟨w1.heap.size,0,none⟩) 0 0) (w':=w2) rfl rfl (by go_simp; first | done | exact ⟨by first | rfl | assumption | (simp only [re]; omega),hw2.symm⟩ | exact hw2.symm) ⟨SK _ _ k2,?_⟩
     walk_nrm
     obtain ⟨v3,w3,a1,v3r,k3,kx,sx2,v3o⟩:=ap9 k2 (eNw2) (by omega) hg (by omega)
     refine wpAnyG_all (rs:=[3]) (by kernel_rfl) (by simp) (fun j hj=>?_)
     obtain rfl : j = 3:=by simpa using hj
     refine wpOp_val (v:=v3) (w':=w3) rfl rfl (run_app_opm (s:=.tmp 64) (x:=.tmp 66) rfl rfl rfl a1) ⟨SK _ _ k3,?_⟩
     walk_nrm
     obtain ⟨v4,w4,a2,v4r,k4,v4o⟩:=ap9b (nb:=w0.heap.size) k3 (by rw [kx w0.heap.size (by omega) (by omega)]; exact (eKw2 _ (by omega)).trans eNw1) v3o v3r hl
     refine wpAnyG_all (rs:=[11]) (by kernel_rfl) (by simp) (fun j hj=>?_)
     obtain rfl : j = 11:=by simpa using hj
     refine wpOp_val (v:=v4) (w':=w4) rfl rfl (run_app_opm (s:=.tmp 67) (x:=.tmp 74) rfl rfl rfl a2) ⟨SK _ _ k4,?_⟩
     walk_nrm
     refine wpAnyG_take (i:=12) (v:=.pointer (some ⟨sb,5,none⟩)) rfl (by kernel_rfl) (by kernel_rfl) (by kernel_rfl) (by kernel_rfl) (fun _ _ _ h=>h) (fun l w=>by simp only [S9,set_iff (i:=12) (j:=13) (by decide)]) (Or.inl ⟨by rfl,fun w5 hS5=>by go_simp⟩) (SK _ _ k4) ?_
     walk_nrm
     have f1 : w4.cell? ⟨sb,5,none⟩ = some gv:=cell_keep hsb (k4.2 _ hlb)
     have f2:=FZ w4 k4
     refine wpAnyG_all (rs:=[13]) (by kernel_rfl) (by simp) (fun j hj=>?_)
     obtain rfl : j = 13:=by simpa using hj
     obtain ⟨sx,sn,sc,rfl⟩:=slice_ofR v4r
     refine wpOp_skip (w':=w4.setCell ⟨sb,5,none⟩ (.slice sx sn sc)) rfl rfl (by go_simp) ⟨⟨cell_keep hga (by rw [setCell_heap,if_neg hgs]; exact k4.2 _ hla),fun hh=>absurd hh (by decide)⟩,?_⟩
     walk_nrm
     exact wpAnyG_done (by kernel_rfl) ⟨⟨⟨by simp,rfl,rfl,rfl,rfl,rfl,rfl⟩,rfl,.slice sx sn sc,norm w4,rfl,rfl,⟨k4.1,k4.2⟩,v4r,v4o⟩,rfl⟩ _
 · obtain ⟨T',df⟩:=a'
   simp only at ha' h1 h2
   subst ha' h3
   exact K T' W v' h1 h2 h4 h5 h6 h7
end
end Go.Proofs.Ytibcdikfbhmheaa

namespace Go.Proofs.Ytibcdikfbhmheaa
open Go Go.Conc Go.Proofs
open Go.ConcN (sumTo upd sumTo_upd upd_ne upd_same)
set_option linter.unusedVariables false
noncomputable def R3n : Code:=nva (nvb (nvb B76))
noncomputable def R4n : Code:=nva (nvb (nvb (nvb B76)))
noncomputable def R5n : Code:=nva (nvb (nvb (nvb (nvb B76))))
noncomputable def R6n : Code:=nva (nvb (nvb (nvb (nvb (nvb B76)))))
theorem copy_row {t e : TypeId} {z : Value} {sz B : Nat} (ht : Try.prog.underlying t = some (.slice e)) (hi : (Try.prog.info? e).map (fun i=>(i.zero,i.size,i.bytes)) = some (some z,sz,B)) (hzs : z.cells.size = sz) (hsz : 0 < sz) (hB : B ≤ 100) {V : World} {u : Value} {m : Nat} {ys : List Value} (hsrc : V.ownsRow 0 e sz u m ys) (h1 : ∀ y ∈ ys,y.oneCell' = true) (hlen : m < 1000000000) :
   ∃ v' w',(Builtin.append_ #[t,t] t #[.slice (some ⟨V.heap.size,0,none⟩) 0 0,u]).run Try.prog (V.alloc (.cells #[] e)) = .ok v' w' ∧ w'.ownsRow 0 e sz v' m ys ∧ V.heap.size ≤ w'.heap.size ∧ (∀ b,b < V.heap.size → w'.heap[b]? = V.heap[b]?) ∧ ∀ b,v'.ownBlock = some b → V.heap.size ≤ b:=by
 have a1 : ∀ b,b < V.heap.size → (V.alloc (.cells #[] e)).heap[b]? = V.heap[b]?:=fun b hb=>by rw [alloc_get,if_neg (by omega)]
 have a2 : (V.alloc (.cells #[] e)).heap[V.heap.size]? = some (.cells #[] e (0,0)):=by rw [alloc_get,if_pos rfl]
 have a3 : (V.alloc (.cells #[] e)).heap.size = V.heap.size + 1:=alloc_size _ _
 obtain ⟨v',w',r1,r2,r3,r4,r5⟩:=app_row (V:=V.alloc (.cells #[] e)) (v:=.slice (some ⟨V.heap.size,0,none⟩) 0 0) (n:=0) (xs:=[]) ht hi hzs hsz hB ⟨by simp,.inr ⟨V.heap.size,0,#[],rfl,Nat.zero_le _,a2,Nat.le_refl _,Nat.zero_le _,by simp,by simp⟩⟩ (row_keep hsrc fun b hb=>a1 b (row_at hsrc hb)) h1 (by omega)
 rw [Nat.zero_add,List.nil_append] at r2
 refine ⟨v',w',r1,r2,by omega,fun b hb=>?_,fun b hb=>?_⟩
 · rw [r4 b (by omega) (fun h=>by have:=Option.some.inj (show some V.heap.size = some b from h); omega)]
   exact a1 b hb
 · rcases r5 with h | h
   · rw [h] at hb
     have:=Option.some.inj (show some V.heap.size = some b from hb)
     omega
   · rw [h] at hb
     have:=Option.some.inj hb
     omega
theorem put_row {t e : TypeId} {z : Value} {B : Nat} (ht : Try.prog.underlying t = some (.slice e)) (hi : (Try.prog.info? e).map (fun i=>(i.zero,i.size,i.bytes)) = some (some z,1,B)) (hzs : z.cells.size = 1) (hB : B ≤ 100) {V : World} {u : Value} {m : Nat} {ys : List Value} (hsrc : V.ownsRow 0 e 1 u m ys) {x : Value} (h1 : x.oneCell' = true) (hlen : m < 900000000) :
   ∃ v' w',(Builtin.append_ #[t,t] t #[u,.slice (some ⟨V.heap.size,0,none⟩) 1 1]).run Try.prog (V.alloc (.cells #[x] e)) = .ok v' w' ∧ w'.ownsRow 0 e 1 v' (m + 1) (ys ++ [x]) ∧ V.heap.size ≤ w'.heap.size ∧ (∀ b,b < V.heap.size → u.ownBlock ≠ some b → w'.heap[b]? = V.heap[b]?) ∧ ∀ b,v'.ownBlock = some b → u.ownBlock = some b ∨ V.heap.size ≤ b:=by
 have a1 : ∀ b,b < V.heap.size → (V.alloc (.cells #[x] e)).heap[b]? = V.heap[b]?:=fun b hb=>by rw [alloc_get,if_neg (by omega)]
 have a2 : (V.alloc (.cells #[x] e)).heap[V.heap.size]? = some (.cells #[x] e (0,0)):=by rw [alloc_get,if_pos rfl]
 have a3 : (V.alloc (.cells #[x] e)).heap.size = V.heap.size + 1:=alloc_size _ _
 obtain ⟨v',w',r1,r2,r3,r4,r5⟩:=app_row (V:=V.alloc (.cells #[x] e)) (v:=u) (n:=m) (xs:=ys) (u:=.slice (some ⟨V.heap.size,0,none⟩) 1 1) (m:=1) (ys:=[x]) ht hi hzs (by decide) hB (row_keep hsrc fun b hb=>a1 b (row_at hsrc hb)) ⟨rfl,.inr ⟨V.heap.size,1,#[x],rfl,Nat.zero_le _,a2,Nat.le_refl _,by simp [maxLen],rfl,rfl⟩⟩ (fun y hy=>by simp at hy; subst hy; exact h1) (by omega)
 refine ⟨v',w',r1,r2,by omega,fun b hb hne=>?_,fun b hb=>?_⟩
 · rw [r4 b (by omega) hne]
   exact a1 b hb
 · rcases r5 with h | h
   · exact .inl (h ▸ hb)
   · rw [h] at hb
     have:=Option.some.inj hb
     right; omega
def HB (T : Array Value) (i sb rb : Nat) : Prop:=T.size = 150 ∧ T[1]? = some (.int .i64 (i : Int)) ∧ T[2]? = some (.pointer (some ⟨sb,0,none⟩)) ∧ T[4]? = some (.pointer (some ⟨rb,0,none⟩))
theorem ints_one (xs : List Nat) : ∀ y ∈ ints xs,y.oneCell' = true:=fun y hy=>by
 obtain ⟨a,_,rfl⟩:=List.mem_map.1 hy
 rfl
section
variable {V : World} {Z : Cuts} {Post : Value → World → Prop} {n i sb rb m : Nat} {c0 c1 c2 c3 c4 c5 : Value} {ys : List Value} {T : Array Value} {kt : List Item} {cs0 : List Frame}
theorem t_r4 (hn : norm V = V) (hsb : V.heap[sb]? = some (.cells #[c0,c1,c2,c3,c4,c5] 34 (0,0))) (hrow : V.ownsRow 0 3 1 c1 m ys) (h1 : ∀ y ∈ ys,y.oneCell' = true) (hm : m < 1000000000) (hT : HB T i sb rb)
   (K : ∀ T' V' v',HB T' i sb rb → T'[5]? = some v' → norm V' = V' → Kp V V' → V'.ownsRow 0 3 1 v' m ys → (∀ b,v'.ownBlock = some b → V.heap.size ≤ b) → To0 Try.prog Post Z V' (G ((base 76).at ⟨T',[]⟩ kt) cs0)) :
   To0 Try.prog Post Z V (G ((base 76).at ⟨T,[]⟩ (.code R4n :: kt)) cs0):=by
 refine To0.walk (will_code (L:=Lone) (R:=fun a' V'=>norm V' = V' ∧ HB a'.tmps i sb rb ∧ ∃ v',a'.tmps[5]? = some v' ∧ Kp V V' ∧ V'.ownsRow 0 3 1 v' m ys ∧ ∀ b,v'.ownBlock = some b → V.heap.size ≤ b) calm rfl ⟨_,Try.func76⟩ rfl (by kernel_rfl) (fun τ=>?_) fun a' V' ⟨q0,q1,v',q2,q3,q4,q5⟩ ha'=>Will.stop ?_)
 · obtain ⟨hs,t1,t2,t4⟩:=hT
   obtain ⟨sx,sn,sc,rfl⟩:=slice_of hrow
   have A:=Lib.hid (copy_row (t:=23) (z:=.int .i64 0) (B:=8) Try.underlying23 (by kernel_rfl) rfl (by decide) (by decide) (V:=re V τ 0) (owns_re hrow) h1 hm)
   have d1 : (re V τ 0).cell? ⟨sb,1,none⟩ = some (.slice sx sn sc):=cell_of hsb (by simp)
   have hlt : sb < V.heap.size:=cell_lt (cell_of hsb (k:=1) (v:=.slice sx sn sc) (by simp))
   have d2 : ((re V τ 0).alloc (.cells #[] 3)).cell? ⟨sb,1,none⟩ = some (.slice sx sn sc):=by
     rw [← d1]
     unfold World.cell?
     rw [alloc_get,if_neg (by show sb ≠ V.heap.size; omega)]
   generalize hw : re V τ 0 = w at *
   have HW:=Lib.hid (show w.heap = V.heap by rw [← hw]; rfl)
   clear K hrow h1 hw
   obtain ⟨f,hf,hT⟩:=array150f T hs
   have et1:=hf 1 _ t1
   have et2:=hf 2 _ t2
   have et4:=hf 4 _ t4
   clear hf hs t1 t2 t4
   subst hT
   simp only [et1,et2,et4]
   clear et1 et2 et4
   simp only [R3n,R4n,R5n,R6n,TY,T1t,TL,TZ,X6t,B76,nva,nvb,nvk,nvl,Try.f76,Option.getD_some]
   go_wp2_with (first
     | (refine wpl_ex rfl rfl rfl rfl rfl A.out ?_
        rintro v' w' ⟨r1,r2,r3,r4⟩
        obtain ⟨xb,xn,xc,rfl⟩:=slice_of r1
        have H:=Lib.hid (And.intro r1 (And.intro r2 (And.intro r3 r4)))
        clear r1 r2 r3 r4))
   obtain ⟨r1,r2,r3,r4⟩:=H.out
   have hw:=HW.out
   rw [hw] at r2 r3 r4
   exact ⟨rfl,⟨by simp,rfl,rfl,rfl⟩,⟨r2,r3⟩,r1,r4⟩
 · obtain ⟨T',df⟩:=a'
   simp only at ha' q1 q2 
   subst ha'
   exact K T' V' v' q1  q2 q0 q3 q4 q5
theorem t_r5 {va : Value} (hn : norm V = V) (hsb : V.heap[sb]? = some (.cells #[c0,c1,c2,c3,c4,c5] 34 (0,0))) (hrow : V.ownsRow 0 4 1 c2 m ys) (h1 : ∀ y ∈ ys,y.oneCell' = true) (hm : m < 1000000000) (hT : HB T i sb rb) (h5 : T[5]? = some va)
   (K : ∀ T' V' v',HB T' i sb rb → T'[5]? = some va → T'[6]? = some v' → norm V' = V' → Kp V V' → V'.ownsRow 0 4 1 v' m ys → (∀ b,v'.ownBlock = some b → V.heap.size ≤ b) → To0 Try.prog Post Z V' (G ((base 76).at ⟨T',[]⟩ kt) cs0)) :
   To0 Try.prog Post Z V (G ((base 76).at ⟨T,[]⟩ (.code R5n :: kt)) cs0):=by
 refine To0.walk (will_code (L:=Lone) (R:=fun a' V'=>norm V' = V' ∧ HB a'.tmps i sb rb ∧ a'.tmps[5]? = some va ∧ ∃ v',a'.tmps[6]? = some v' ∧ Kp V V' ∧ V'.ownsRow 0 4 1 v' m ys ∧ ∀ b,v'.ownBlock = some b → V.heap.size ≤ b) calm rfl ⟨_,Try.func76⟩ rfl (by kernel_rfl) (fun τ=>?_) fun a' V' ⟨q0,q1,g5,v',q2,q3,q4,q5⟩ ha'=>Will.stop ?_)
 · obtain ⟨hs,t1,t2,t4⟩:=hT
   obtain ⟨sx,sn,sc,rfl⟩:=slice_of hrow
   have A:=Lib.hid (copy_row (t:=26) (z:=.bool false) (B:=1) Try.underlying26 (by kernel_rfl) rfl (by decide) (by decide) (V:=re V τ 0) (owns_re hrow) h1 hm)
   have d1 : (re V τ 0).cell? ⟨sb,2,none⟩ = some (.slice sx sn sc):=cell_of hsb (by simp)
   have hlt : sb < V.heap.size:=cell_lt (cell_of hsb (k:=2) (v:=.slice sx sn sc) (by simp))
   have d2 : ((re V τ 0).alloc (.cells #[] 4)).cell? ⟨sb,2,none⟩ = some (.slice sx sn sc):=by
     rw [← d1]
     unfold World.cell?
     rw [alloc_get,if_neg (by show sb ≠ V.heap.size; omega)]
   generalize hw : re V τ 0 = w at *
   have HW:=Lib.hid (show w.heap = V.heap by rw [← hw]; rfl)
   clear K hrow h1 hw
   obtain ⟨f,hf,hT⟩:=array150f T hs
   have et1:=hf 1 _ t1
   have et2:=hf 2 _ t2
   have et4:=hf 4 _ t4
   have eh5:=hf 5 _ h5
   clear hf hs t1 t2 t4 h5
   subst hT
   simp only [et1,et2,et4,eh5]
   clear et1 et2 et4 eh5
   simp only [R3n,R4n,R5n,R6n,TY,T1t,TL,TZ,X6t,B76,nva,nvb,nvk,nvl,Try.f76,Option.getD_some]
   go_wp2_with (first
     | (refine wpl_ex rfl rfl rfl rfl rfl A.out ?_
        rintro v' w' ⟨r1,r2,r3,r4⟩
        obtain ⟨xb,xn,xc,rfl⟩:=slice_of r1
        have H:=Lib.hid (And.intro r1 (And.intro r2 (And.intro r3 r4)))
        clear r1 r2 r3 r4))
   obtain ⟨r1,r2,r3,r4⟩:=H.out
   have hw:=HW.out
   rw [hw] at r2 r3 r4
   exact ⟨rfl,⟨by simp,rfl,rfl,rfl⟩,⟨r2,r3⟩,r1,r4⟩
 · obtain ⟨T',df⟩:=a'
   simp only at ha' q1 q2 g5
   subst ha'
   exact K T' V' v' q1 g5 q2 q0 q3 q4 q5
theorem t_r6 {va : Value} {vo : Value} (hn : norm V = V) (hsb : V.heap[sb]? = some (.cells #[c0,c1,c2,c3,c4,c5] 34 (0,0))) (hrow : V.ownsRow 0 4 1 c3 m ys) (h1 : ∀ y ∈ ys,y.oneCell' = true) (hm : m < 1000000000) (hT : HB T i sb rb) (h5 : T[5]? = some va) (h6 : T[6]? = some vo)
   (K : ∀ T' V' v',HB T' i sb rb → T'[5]? = some va → T'[6]? = some vo → T'[7]? = some v' → norm V' = V' → Kp V V' → V'.ownsRow 0 4 1 v' m ys → (∀ b,v'.ownBlock = some b → V.heap.size ≤ b) → To0 Try.prog Post Z V' (G ((base 76).at ⟨T',[]⟩ kt) cs0)) :
   To0 Try.prog Post Z V (G ((base 76).at ⟨T,[]⟩ (.code R6n :: kt)) cs0):=by
 refine To0.walk (will_code (L:=Lone) (R:=fun a' V'=>norm V' = V' ∧ HB a'.tmps i sb rb ∧ a'.tmps[5]? = some va ∧ a'.tmps[6]? = some vo ∧ ∃ v',a'.tmps[7]? = some v' ∧ Kp V V' ∧ V'.ownsRow 0 4 1 v' m ys ∧ ∀ b,v'.ownBlock = some b → V.heap.size ≤ b) calm rfl ⟨_,Try.func76⟩ rfl (by kernel_rfl) (fun τ=>?_) fun a' V' ⟨q0,q1,g5,g6,v',q2,q3,q4,q5⟩ ha'=>Will.stop ?_)
 · obtain ⟨hs,t1,t2,t4⟩:=hT
   obtain ⟨sx,sn,sc,rfl⟩:=slice_of hrow
   have A:=Lib.hid (copy_row (t:=26) (z:=.bool false) (B:=1) Try.underlying26 (by kernel_rfl) rfl (by decide) (by decide) (V:=re V τ 0) (owns_re hrow) h1 hm)
   have d1 : (re V τ 0).cell? ⟨sb,3,none⟩ = some (.slice sx sn sc):=cell_of hsb (by simp)
   have hlt : sb < V.heap.size:=cell_lt (cell_of hsb (k:=3) (v:=.slice sx sn sc) (by simp))
   have d2 : ((re V τ 0).alloc (.cells #[] 4)).cell? ⟨sb,3,none⟩ = some (.slice sx sn sc):=by
     rw [← d1]
     unfold World.cell?
     rw [alloc_get,if_neg (by show sb ≠ V.heap.size; omega)]
   generalize hw : re V τ 0 = w at *
   have HW:=Lib.hid (show w.heap = V.heap by rw [← hw]; rfl)
   clear K hrow h1 hw
   obtain ⟨f,hf,hT⟩:=array150f T hs
   have et1:=hf 1 _ t1
   have et2:=hf 2 _ t2
   have et4:=hf 4 _ t4
   have eh5:=hf 5 _ h5
   have eh6:=hf 6 _ h6
   clear hf hs t1 t2 t4 h5 h6
   subst hT
   simp only [et1,et2,et4,eh5,eh6]
   clear et1 et2 et4 eh5 eh6
   simp only [R3n,R4n,R5n,R6n,TY,T1t,TL,TZ,X6t,B76,nva,nvb,nvk,nvl,Try.f76,Option.getD_some]
   go_wp2_with (first
     | (refine wpl_ex rfl rfl rfl rfl rfl A.out ?_
        rintro v' w' ⟨r1,r2,r3,r4⟩
        obtain ⟨xb,xn,xc,rfl⟩:=slice_of r1
        have H:=Lib.hid (And.intro r1 (And.intro r2 (And.intro r3 r4)))
        clear r1 r2 r3 r4))
   obtain ⟨r1,r2,r3,r4⟩:=H.out
   have hw:=HW.out
   rw [hw] at r2 r3 r4
   exact ⟨rfl,⟨by simp,rfl,rfl,rfl⟩,⟨r2,r3⟩,r1,r4⟩
 · obtain ⟨T',df⟩:=a'
   simp only at ha' q1 q2 g5 g6
   subst ha'
   exact K T' V' v' q1 g5 g6 q2 q0 q3 q4 q5
theorem t_r3 (hn : norm V = V) (hsb : V.heap[sb]? = some (.cells #[c0,c1,c2,c3,c4,c5] 34 (0,0))) {xs : List Nat} (hrow : V.ownsRow 0 3 1 c4 xs.length (ints xs)) (hm : xs.length < 800000000) (hT : HB T i sb rb)
   (K : ∀ T' V' v',HB T' i sb rb → norm V' = V' → V'.heap[sb]? = some (.cells #[c0,c1,c2,c3,v',c5] 34 (0,0)) → V'.ownsRow 0 3 1 v' (xs.length + 1) (ints (xs ++ [i])) → V.heap.size ≤ V'.heap.size → (∀ b,b < V.heap.size → b ≠ sb → V'.heap[b]? = V.heap[b]?) → (∀ b,v'.ownBlock = some b → V.heap.size ≤ b) → To0 Try.prog Post Z V' (G ((base 76).at ⟨T',[]⟩ kt) cs0)) :
   To0 Try.prog Post Z V (G ((base 76).at ⟨T,[]⟩ (.code R3n :: kt)) cs0):=by
 refine To0.walk (will_code (L:=Lone) (R:=fun a' V'=>norm V' = V' ∧ HB a'.tmps i sb rb ∧ ∃ v',V'.heap[sb]? = some (.cells #[c0,c1,c2,c3,v',c5] 34 (0,0)) ∧ V'.ownsRow 0 3 1 v' (xs.length + 1) (ints (xs ++ [i])) ∧ V.heap.size ≤ V'.heap.size ∧ (∀ b,b < V.heap.size → b ≠ sb → V'.heap[b]? = V.heap[b]?) ∧ ∀ b,v'.ownBlock = some b → V.heap.size ≤ b) calm rfl ⟨_,Try.func76⟩ rfl (by kernel_rfl) (fun τ=>?_) fun a' V' ⟨q0,q1,v',q2,q3,q4,q5,q6⟩ ha'=>Will.stop ?_)
 · obtain ⟨hs,t1,t2,t4⟩:=hT
   obtain ⟨sx,sn,sc,rfl⟩:=slice_of hrow
   have A:=Lib.hid (copy_row (t:=23) (z:=.int .i64 0) (B:=8) Try.underlying23 (by kernel_rfl) rfl (by decide) (by decide) (V:=re V τ 0) (owns_re hrow) (ints_one xs) (by omega))
   have d1 : (re V τ 0).cell? ⟨sb,4,none⟩ = some (.slice sx sn sc):=cell_of hsb (by simp)
   have hlt : sb < V.heap.size:=cell_lt (cell_of hsb (k:=4) (v:=.slice sx sn sc) (by simp))
   have d2 : ((re V τ 0).alloc (.cells #[] 3)).cell? ⟨sb,4,none⟩ = some (.slice sx sn sc):=by
     rw [← d1]
     unfold World.cell?
     rw [alloc_get,if_neg (by show sb ≠ V.heap.size; omega)]
   have HSB:=Lib.hid (show (re V τ 0).heap[sb]? = some (.cells #[c0,c1,c2,c3,.slice sx sn sc,c5] 34 (0,0)) from hsb)
   generalize hw : re V τ 0 = w at *
   have HW:=Lib.hid (show w.heap = V.heap by rw [← hw]; rfl)
   have HL:=Lib.hid (show sb < w.heap.size by rw [HW.out]; exact hlt)
   clear K hrow hw hlt
   obtain ⟨f,hf,hT⟩:=array150f T hs
   have et1:=hf 1 _ t1
   have et2:=hf 2 _ t2
   have et4:=hf 4 _ t4
   clear hf hs t1 t2 t4
   subst hT
   simp only [et1,et2,et4]
   clear et1 et2 et4
   simp only [R3n,R4n,R5n,R6n,TY,T1t,TL,TZ,X6t,B76,nva,nvb,nvk,nvl,Try.f76,Option.getD_some]
   go_wp2_with (first
     | (refine wpl_ex rfl rfl rfl rfl rfl A.out ?_
        rintro v' w' ⟨r1,r2,r3,r4⟩
        obtain ⟨xb,xn,xc,rfl⟩:=slice_of r1
        have A2:=Lib.hid (put_row (t:=23) (z:=.int .i64 0) (B:=8) Try.underlying23 (by kernel_rfl) rfl (by decide) r1 (x:=.int .i64 (i : Int)) rfl (by omega))
        have H:=Lib.hid (And.intro r1 (And.intro r2 (And.intro r3 r4)))
        clear r1 r2 r3 r4 A)
     | (refine wpl_ex rfl rfl rfl rfl rfl A2.out ?_
        rintro v2 w2 ⟨s1,s2,s3,s4⟩
        obtain ⟨yb,yn,yc,rfl⟩:=slice_of s1
        obtain ⟨r1,r2,r3,r4⟩:=H.out
        have hl:=HL.out
        have gsb : w2.heap[sb]? = some (.cells #[c0,c1,c2,c3,.slice sx sn sc,c5] 34 (0,0)):=by
          rw [s3 sb (by omega) (fun e=>by have:=r4 sb e; omega),r3 sb hl]; exact HSB.out
        have gc : w2.cell? ⟨sb,4,none⟩ = some (.slice sx sn sc):=cell_of gsb (by simp)
        have gz : w2.frozen? ⟨sb,4,none⟩ = false:=by simp [World.frozen?,gsb]
        have H2:=Lib.hid (And.intro gsb (And.intro s1 (And.intro s2 (And.intro s3 s4))))
        clear s1 s2 s3 s4 r1 r2 r3 r4 gsb hl A2))
   obtain ⟨r1,r2,r3,r4⟩:=H.out
   obtain ⟨gsb,s1,s2,s3,s4⟩:=H2.out
   have hl:=HL.out
   have hw:=HW.out
   have q4 : ∀ b,(Value.slice yb yn yc).ownBlock = some b → w.heap.size ≤ b:=fun b hb=>by
     rcases s4 b hb with h | h
     · exact r4 b h
     · omega
   refine ⟨rfl,⟨by simp,rfl,rfl,rfl⟩,.slice yb yn yc,?_,?_,?_,fun b hb hne=>?_,fun b hb=>by rw [← hw]; exact q4 b hb⟩
   · show (w2.setCell ⟨sb,4,none⟩ (.slice yb yn yc)).heap[sb]? = _
     rw [setCell_heap,if_pos rfl,gsb]
     simp
   · have e : ints (xs ++ [i]) = ints xs ++ [.int .i64 (i : Int)]:=by simp [ints]
     rw [e]
     exact row_keep (w:=w2) s1 fun b hb=>set_off _ _ (fun e=>by have:=q4 b hb; omega)
   · show V.heap.size ≤ (w2.setCell ⟨sb,4,none⟩ (.slice yb yn yc)).heap.size
     rw [← hw]
     have : (w2.setCell ⟨sb,4,none⟩ (.slice yb yn yc)).heap.size = w2.heap.size:=by simp [World.setCell]
     omega
   · show (w2.setCell ⟨sb,4,none⟩ (.slice yb yn yc)).heap[b]? = _
     rw [set_off _ _ hne,s3 b (by rw [← hw] at hb; omega) (fun e=>by have:=r4 b e; rw [← hw] at hb; omega),r3 b (by rw [hw]; exact hb),hw]
 · obtain ⟨T',df⟩:=a'
   simp only at ha' q1
   subst ha'
   exact K T' V' v' q1 q0 q2 q3 q4 q5 q6
end
end Go.Proofs.Ytibcdikfbhmheaa
