import Derived.Test.YtibcdikfbhmheaaB21
import Derived.Laws.StructEq
import Derived.Test.YtibcdikfbhmheaaQD02
import Derived.Test.YtibcdikfbhmheaaB22
import Derived.Test.YtibcdikfbhmheaaB16
set_option linter.unusedSimpArgs false
set_option linter.unusedVariables false
set_option maxRecDepth 100000
set_option maxHeartbeats 4000000
namespace Go.Proofs.Ytibcdikfbhmheaa
open Go Go.Conc Go.Proofs
open Go.ConcN (sumTo upd sumTo_upd upd_ne upd_same)
set_option linter.unusedVariables false
structure Beh (x y : TS × List Nat) : Prop where
 lg : ∃ t,y.1.log = x.1.log ++ t
 od : ∃ t,y.2 = x.2 ++ t
 ov : ∀ j,cl (x.1.st j) = 3 → cl (y.1.st j) = 3
theorem Beh.refl (x : TS × List Nat) : Beh x x:=⟨⟨[],by simp⟩,⟨[],by simp⟩,fun _ h=>h⟩
theorem Beh.trans {x y z : TS × List Nat} (h : Beh x y) (k : Beh y z) : Beh x z:=by
 obtain ⟨t,e⟩:=h.lg
 obtain ⟨t',e'⟩:=k.lg
 obtain ⟨u,f⟩:=h.od
 obtain ⟨u',f'⟩:=k.od
 exact ⟨⟨t ++ t',by rw [e',e,List.append_assoc]⟩,⟨u ++ u',by rw [f',f,List.append_assoc]⟩,fun j hj=>k.ov j (h.ov j hj)⟩
theorem notes_at : ∀ (l : List (Nat × Nat)) (j : Nat),j < l.length → (notes l)[j * 2]? = some (.int .i64 ((l.getD j (0,0)).1 : Int)) ∧ (notes l)[j * 2 + 1]? = some (.int .i64 ((l.getD j (0,0)).2 : Int)):=by
 intro l
 induction l with
 | nil=>intro j hj; exact absurd hj (by simp)
 | cons a l ih =>
   intro j hj
   cases j with
   | zero=>exact ⟨rfl,rfl⟩
   | succ j =>
     have h:=ih j (by simpa using hj)
     show (_ :: _ :: notes l)[(j + 1) * 2]? = _ ∧ (_ :: _ :: notes l)[(j + 1) * 2 + 1]? = _
     rw [show (j + 1) * 2 = j * 2 + 1 + 1 by omega,List.getElem?_cons_succ,List.getElem?_cons_succ,List.getElem?_cons_succ,List.getElem?_cons_succ,List.getD_cons_succ]
     exact h
theorem rd_notes {w : World} {e : TypeId} {v : Value} {l : List (Nat × Nat)} (h : w.ownsRow 0 e 2 v l.length (notes l)) : ∃ A c,v = .slice A l.length c ∧ l.length ≤ 9223372036854775807 ∧ (0 < l.length → ∃ g,A = some ⟨g,0,none⟩ ∧ g < w.heap.size ∧ ∀ j,j < l.length → w.cell? ⟨g,j * 2,none⟩ = some (.int .i64 ((l.getD j (0,0)).1 : Int)) ∧ w.cell? ⟨g,j * 2 + 1,none⟩ = some (.int .i64 ((l.getD j (0,0)).2 : Int))):=by
 obtain ⟨h1,h2⟩:=h
 rcases h2 with ⟨rfl,e0⟩ | ⟨g,cap,cur,rfl,_,h4,h5,h6,h7,h8⟩
 · exact ⟨_,_,by rw [e0],by omega,fun h=>absurd h (by omega)⟩
 · refine ⟨_,_,rfl,by simp only [maxLen] at h6; omega,fun h0=>⟨g,rfl,(Array.getElem?_eq_some_iff.1 h4).1,fun j hj=>?_⟩⟩
   obtain ⟨n1,n2⟩:=notes_at l j hj
   rw [← h8,List.getElem?_take,if_pos (by omega)] at n1 n2
   simp only [World.cell?,h4]
   exact ⟨by simpa using n1,by simpa using n2⟩
end Go.Proofs.Ytibcdikfbhmheaa

namespace Go.Proofs.Ytibcdikfbhmheaa
open Go Go.Conc Go.Proofs
open Go.ConcN (sumTo upd sumTo_upd upd_ne upd_same)
set_option linter.unusedVariables false
theorem isAgg3' : ∀ w,(isAgg 3).run Try.prog w = .ok false w:=fun w=>by
 unfold isAgg
 rw [Sem.run_bind,run_underlying Try.underlying3 w]
 rfl
theorem size3' : ∀ w,(sizeOf 3).run Try.prog w = .ok 1 w:=fun w=>by
 have h : (Try.prog.info? 3).map (·.size) = some 1:=by kernel_rfl
 unfold sizeOf typeInfo
 cases e : Try.prog.info? 3 with
 | none=>rw [e] at h; cases h
 | some i=>rw [e] at h; simp [Sem.run_bind,e]; simpa using h
theorem eq41 (a b c d : Int) (w : World) : (Op.equalIn 10000 41 (.agg #[.int .i64 a,.int .i64 b]) (.agg #[.int .i64 c,.int .i64 d])).run Try.prog w = .ok (a == c && b == d) w:=by
 have u3:=Try.underlying3
 have a3:=isAgg3'
 have z3:=size3'
 have hS : Try.prog.underlying 41 = some (.struct (Try.prog.fieldsOf 41)):=by kernel_rfl
 have hp : Try.prog.stoodInHeld 41 = false:=by kernel_rfl
 rw [show (10000 : Nat) = 9999 + 1 from rfl,run_equalIn_agg w 9999 41 _ _ hS hp]
 simp only [Program.fieldsOf,Try.underlying41]
 go_simp
 by_cases h1 : a = c <;> by_cases h2 : b = d <;> simp [h1,h2]
section
variable {W V : World} {Z : Cuts} {n lc ln lx rb wb qb xb c1 c2 : Nat} {la A1 A2 : Option Addr} {l1 l2 : List (Nat × Nat)}
end
end Go.Proofs.Ytibcdikfbhmheaa

namespace Go.Proofs.Ytibcdikfbhmheaa
open Go Go.Conc Go.Proofs
open Go.ConcN (sumTo upd sumTo_upd upd_ne upd_same)
set_option linter.unusedVariables false
theorem array98f (T : Array Value) (h : T.size = 98) : ∃ f : Nat → Value,(∀ i v,T[i]? = some v → f i = v) ∧ T = #[f 0,f 1,f 2,f 3,f 4,f 5,f 6,f 7,f 8,f 9,f 10,f 11,f 12,f 13,f 14,f 15,f 16,f 17,f 18,f 19,f 20,f 21,f 22,f 23,f 24,f 25,f 26,f 27,f 28,f 29,f 30,f 31,f 32,f 33,f 34,f 35,f 36,f 37,f 38,f 39,f 40,f 41,f 42,f 43,f 44,f 45,f 46,f 47,f 48,f 49,f 50,f 51,f 52,f 53,f 54,f 55,f 56,f 57,f 58,f 59,f 60,f 61,f 62,f 63,f 64,f 65,f 66,f 67,f 68,f 69,f 70,f 71,f 72,f 73,f 74,f 75,f 76,f 77,f 78,f 79,f 80,f 81,f 82,f 83,f 84,f 85,f 86,f 87,f 88,f 89,f 90,f 91,f 92,f 93,f 94,f 95,f 96,f 97]:=by
 refine ⟨fun i=>T.getD i undef,fun i v hv=>by simp [Array.getD_eq_getD_getElem?,hv],?_⟩
 generalize hf : (fun i=>T.getD i undef) = f
 have e : T.toList = (List.range 98).map f:=by
   apply List.ext_getElem?
   intro i
   rw [List.getElem?_map,Array.getElem?_toList]
   by_cases hi : i < 98
   · rw [List.getElem?_range hi,Option.map_some,← hf]
     simp [Array.getD_eq_getD_getElem?,Array.getElem?_eq_getElem (show i < T.size by omega)]
   · rw [List.getElem?_eq_none (by simp; omega),Array.getElem?_eq_none (by omega)]
     rfl
 have e2 : (List.range 98).map f = [f 0,f 1,f 2,f 3,f 4,f 5,f 6,f 7,f 8,f 9,f 10,f 11,f 12,f 13,f 14,f 15,f 16,f 17,f 18,f 19,f 20,f 21,f 22,f 23,f 24,f 25,f 26,f 27,f 28,f 29,f 30,f 31,f 32,f 33,f 34,f 35,f 36,f 37,f 38,f 39,f 40,f 41,f 42,f 43,f 44,f 45,f 46,f 47,f 48,f 49,f 50,f 51,f 52,f 53,f 54,f 55,f 56,f 57,f 58,f 59,f 60,f 61,f 62,f 63,f 64,f 65,f 66,f 67,f 68,f 69,f 70,f 71,f 72,f 73,f 74,f 75,f 76,f 77,f 78,f 79,f 80,f 81,f 82,f 83,f 84,f 85,f 86,f 87,f 88,f 89,f 90,f 91,f 92,f 93,f 94,f 95,f 96,f 97]:=rfl
 rw [e2] at e
 rw [← Array.toArray_toList (xs:=T),e]
theorem wpOp_callR {P : Program} {ops : Array Oper} {Q : Exit → Act → World → Prop} {i : Nat} {o : Oper} {K : Act → World → Prop} {a : Act} {w : World} {f : FuncId} {args : Array Value} (ho : ops[i]? = some o) (hw : Region.wanted o (yielded ops a.tmps) = true) (hr : (execOp a.eval o).run P w = .ok (.enter f args) w) (hc : Calls P f args w fun e w'=>∃ v,e = .returned v ∧ K (a.put o.dst v) w') : wpOp P ops Q i K a w:=by
 unfold wpOp
 simp only [ho,hw,if_true]
 left
 unfold Oper.wp
 rw [hr,Oper.upon_enter]
 refine hc.mono fun e w' h=>?_
 obtain ⟨v,rfl,h⟩:=h
 exact h
noncomputable def B3w : Code:=Try.f3.body.getD .skip
noncomputable def X6w : Code:=nvb (nvb (nvb (nvb (nvb B3w))))
noncomputable def X7w : Code:=nvb X6w
noncomputable def XLq : Code:=nvl (nvk (nvb (nva X7w)))
noncomputable def XEq : Code:=nvb X7w
noncomputable def W6n : Code:=nva (nva X6w)
noncomputable def W8n : Code:=nva (nva X7w)
noncomputable def W9n : Code:=nva (nva XLq)
noncomputable def W11n : Code:=nva (nvk (nva (nvb XLq)))
noncomputable def W10n : Code:=nvb (nvb XLq)
def HW (T : Array Value) (rb wp qb : Nat) : Prop:=T.size = 98 ∧ T[8]? = some (.pointer (some ⟨rb,0,none⟩)) ∧ T[9]? = some (.pointer (some ⟨wp,0,none⟩)) ∧ T[10]? = some (.bool true) ∧ T[11]? = some (.pointer (some ⟨qb,0,none⟩))
section
variable {V : World} {Z : Cuts} {Post : Value → World → Prop} {rb wp qb n l1 m : Nat} {c1 c2 d1 d2 y1 y2 g1 g2 : Nat} {A1 A2 B1 B2 C1 C2 G1 G2 : Option Addr} {v0 v1 : Value} {fx : Nat → Int} {fo fp : Nat → Bool} {T : Array Value} {kt : List Item} {cs0 : List Frame}
theorem w_r6 (hr : V.heap[rb]? = some (.cells #[.slice A1 l1 c1,.slice B1 n d1,.slice C1 n y1] 28 (0,0))) (hw : V.heap[wp]? = some (.cells #[.slice G1 m g1,.bool false] 37 (0,0))) (hq : V.heap[qb]? = some (.cells #[v0,v1,.slice B2 n d2,.slice C2 n y2,.slice A2 l1 c2,.slice G2 m g2] 34 (0,0)))
   (a1 : Rds V A1 l1 fun j=>.int .i64 (fx j)) (a2 : Rds V A2 l1 fun j=>.int .i64 (fx j)) (b1 : Rds V B1 n fun j=>.bool (fo j)) (b2 : Rds V B2 n fun j=>.bool (fo j)) (p1 : Rds V C1 n fun j=>.bool (fp j)) (p2 : Rds V C2 n fun j=>.bool (fp j)) (hT : HW T rb wp qb)
   (K : ∀ T' V',HW T' rb wp qb → T'[74]? = some (.bool false) → norm V' = V' → Kp V V' → To0 Try.prog Post Z V' (G ((base 3).at ⟨T',[]⟩ kt) cs0)) :
   To0 Try.prog Post Z V (G ((base 3).at ⟨T,[]⟩ (.code W6n :: kt)) cs0):=by
 refine To0.walk (will_code (L:=Lone) (R:=fun a' V'=>HW a'.tmps rb wp qb ∧ a'.tmps[74]? = some (.bool false) ∧ norm V' = V' ∧ Kp V V') calm rfl ⟨_,Try.func3⟩ rfl (by kernel_rfl) (fun τ=>?_) fun a' V' ⟨q0,q1,q2,q3⟩ ha'=>Will.stop ?_)
 · obtain ⟨hs,t8,t9,t10,t11⟩:=hT
   clear K
   have R0:=Lib.hid (And.intro hr (And.intro hw hq))
   clear hr hw hq
   obtain ⟨f,hf,hT⟩:=array98f T hs
   have et8:=hf 8 _ t8
   have et9:=hf 9 _ t9
   have et10:=hf 10 _ t10
   have et11:=hf 11 _ t11
   clear hf hs t8 t9 t10 t11
   subst hT
   simp only [et8,et9,et10,et11]
   clear et8 et9 et10 et11
   simp only [W6n,W8n,W9n,W10n,W11n,XLq,XEq,X6w,X7w,B3w,nva,nvb,nvk,nvl,nvc2,Try.f3,Option.getD_some]
   refine wp_region_g (fun _ w=>New (re V τ 0) w) (by kernel_rfl) ?_
   simp only [List.size_toArray,List.length_cons,List.length_nil,Nat.reduceAdd,Nat.zero_add,Array.replicate_succ,Array.replicate_zero,List.push_toArray,List.nil_append,List.cons_append]
   generalize hw0 : ({ re V τ 0 with drawn:=(re V τ 0).drawn + 1 } : World) = w0
   have hN0 : New (re V τ 0) w0:=by rw [← hw0]; exact (New.refl _).drew
   have RD : ∀ w,New (re V τ 0) w → (w.cell? ⟨rb,0,none⟩ = some (.slice A1 l1 c1) ∧ w.cell? ⟨rb,1,none⟩ = some (.slice B1 n d1) ∧ w.cell? ⟨rb,2,none⟩ = some (.slice C1 n y1)) ∧ (w.cell? ⟨wp,0,none⟩ = some (.slice G1 m g1) ∧ w.cell? ⟨wp,1,none⟩ = some (.bool false)) ∧ w.cell? ⟨qb,2,none⟩ = some (.slice B2 n d2) ∧ w.cell? ⟨qb,3,none⟩ = some (.slice C2 n y2) ∧ w.cell? ⟨qb,4,none⟩ = some (.slice A2 l1 c2) ∧ w.cell? ⟨qb,5,none⟩ = some (.slice G2 m g2):=fun w h=>by
     obtain ⟨hr,hw,hq⟩:=R0.out
     have k:=fun b (hb : b < V.heap.size)=>h.block b hb
     have lr : rb < V.heap.size:=(Array.getElem?_eq_some_iff.1 hr).1
     have lw : wp < V.heap.size:=(Array.getElem?_eq_some_iff.1 hw).1
     have lq : qb < V.heap.size:=(Array.getElem?_eq_some_iff.1 hq).1
     have hr':=(k rb lr).trans hr
     have hw':=(k wp lw).trans hw
     have hq':=(k qb lq).trans hq
     exact ⟨⟨cell_of hr' (by simp),cell_of hr' (by simp),cell_of hr' (by simp)⟩,⟨cell_of hw' (by simp),cell_of hw' (by simp)⟩,cell_of hq' (by simp),cell_of hq' (by simp),cell_of hq' (by simp),cell_of hq' (by simp)⟩
   have RR : ∀ w,New (re V τ 0) w → (Rds w A1 l1 fun j=>.int .i64 (fx j)) ∧ (Rds w A2 l1 fun j=>.int .i64 (fx j)) ∧ (Rds w B1 n fun j=>.bool (fo j)) ∧ (Rds w B2 n fun j=>.bool (fo j)) ∧ (Rds w C1 n fun j=>.bool (fp j)) ∧ (Rds w C2 n fun j=>.bool (fp j)):=fun w h=>by
     have go : ∀ {A : Option Addr} {q : Nat} {f : Nat → Value},Rds V A q f → Rds w A q f:=fun r=>Rds.new (w:=re V τ 0) r h
     exact ⟨go a1,go a2,go b1,go b2,go p1,go p2⟩
   clear a1 a2 b1 b2 p1 p2 hw0
   refine wpAnyG_take (i:=0) (v:=.bool true) rfl (by kernel_rfl) (by kernel_rfl) (by kernel_rfl) (by kernel_rfl) (fun _ _ _ h=>h) (fun l w=>Iff.rfl) (Or.inl ⟨by rfl,fun w5 hS5=>by go_simp⟩) hN0 ?_
   walk_nrm
   refine wpAnyG_take (i:=1) (v:=.bool false) rfl (by kernel_rfl) (by kernel_rfl) (by kernel_rfl) (by kernel_rfl) (fun _ _ _ h=>h) (fun l w=>Iff.rfl) (Or.inl ⟨by rfl,fun w5 hS5=>by go_simp⟩) hN0 ?_
   walk_nrm
   refine wpAnyG_take (i:=2) (v:=.bool false) rfl (by kernel_rfl) (by kernel_rfl) (by kernel_rfl) (by kernel_rfl) (fun _ _ _ h=>h) (fun l w=>Iff.rfl) (Or.inl ⟨by rfl,fun w5 hS5=>by go_simp⟩) hN0 ?_
   walk_nrm
   refine wpAnyG_take (i:=3) (v:=.pointer (some ⟨wp,0,none⟩)) rfl (by kernel_rfl) (by kernel_rfl) (by kernel_rfl) (by kernel_rfl) (fun _ _ _ h=>h) (fun l w=>Iff.rfl) (Or.inl ⟨by rfl,fun w5 hS5=>by go_simp⟩) hN0 ?_
   walk_nrm
   refine wpAnyG_take (i:=4) (v:=.pointer (some ⟨wp,0,none⟩)) rfl (by kernel_rfl) (by kernel_rfl) (by kernel_rfl) (by kernel_rfl) (fun _ _ _ h=>h) (fun l w=>Iff.rfl) (Or.inl ⟨by rfl,fun w5 hS5=>by go_simp⟩) hN0 ?_
   walk_nrm
   refine wpAnyG_take (i:=5) (v:=.pointer (some ⟨wp,1,none⟩)) rfl (by kernel_rfl) (by kernel_rfl) (by kernel_rfl) (by kernel_rfl) (fun _ _ _ h=>h) (fun l w=>Iff.rfl) (Or.inl ⟨by rfl,fun w5 hS5=>by go_simp⟩) hN0 ?_
   walk_nrm
   refine wpAnyG_take (i:=6) (v:=.bool false) rfl (by kernel_rfl) (by kernel_rfl) (by kernel_rfl) (by kernel_rfl) (fun _ _ _ h=>h) (fun l w=>Iff.rfl) (Or.inl ⟨by rfl,fun w5 hS5=>by obtain ⟨l5,hN5,-,-⟩:=hS5; obtain ⟨⟨x0,x1,x2⟩,⟨x3,x4⟩,x5,x6,x7,x8⟩:=RD w5 hN5; go_simp⟩) hN0 ?_
   walk_nrm
   refine wpAnyG_take (i:=7) (v:=.bool false) rfl (by kernel_rfl) (by kernel_rfl) (by kernel_rfl) (by kernel_rfl) (fun _ _ _ h=>h) (fun l w=>Iff.rfl) (Or.inl ⟨by rfl,fun w5 hS5=>by go_simp⟩) hN0 ?_
   walk_nrm
   refine wpAnyG_take (i:=8) (v:=.bool false) rfl (by kernel_rfl) (by kernel_rfl) (by kernel_rfl) (by kernel_rfl) (fun _ _ _ h=>h) (fun l w=>Iff.rfl) (Or.inl ⟨by rfl,fun w5 hS5=>by go_simp⟩) hN0 ?_
   walk_nrm
   refine wpAnyG_take (i:=9) (v:=.pointer (some ⟨rb,0,none⟩)) rfl (by kernel_rfl) (by kernel_rfl) (by kernel_rfl) (by kernel_rfl) (fun _ _ _ h=>h) (fun l w=>Iff.rfl) (Or.inl ⟨by rfl,fun w5 hS5=>by go_simp⟩) hN0 ?_
   walk_nrm
   refine wpAnyG_take (i:=11) (v:=.pointer (some ⟨qb,4,none⟩)) rfl (by kernel_rfl) (by kernel_rfl) (by kernel_rfl) (by kernel_rfl) (fun _ _ _ h=>h) (fun l w=>Iff.rfl) (Or.inl ⟨by rfl,fun w5 hS5=>by go_simp⟩) hN0 ?_
   walk_nrm
   refine wpAnyG_take (i:=10) (v:=.slice A1 l1 c1) rfl (by kernel_rfl) (by kernel_rfl) (by kernel_rfl) (by kernel_rfl) (fun _ _ _ h=>h) (fun l w=>Iff.rfl) (Or.inl ⟨by rfl,fun w5 hS5=>by obtain ⟨l5,hN5,-,-⟩:=hS5; obtain ⟨⟨x0,x1,x2⟩,⟨x3,x4⟩,x5,x6,x7,x8⟩:=RD w5 hN5; go_simp⟩) hN0 ?_
   walk_nrm
   refine wpAnyG_take (i:=12) (v:=.slice A2 l1 c2) rfl (by kernel_rfl) (by kernel_rfl) (by kernel_rfl) (by kernel_rfl) (fun _ _ _ h=>h) (fun l w=>Iff.rfl) (Or.inl ⟨by rfl,fun w5 hS5=>by obtain ⟨l5,hN5,-,-⟩:=hS5; obtain ⟨⟨x0,x1,x2⟩,⟨x3,x4⟩,x5,x6,x7,x8⟩:=RD w5 hN5; go_simp⟩) hN0 ?_
   walk_nrm
   refine wpAnyG_all (rs:=[13]) (by kernel_rfl) (by simp) (fun j hj=>?_)
   obtain rfl : j = 13:=by simpa using hj
   obtain ⟨ra1,ra2,rb1,rb2,rp1,rp2⟩:=RR w0 hN0
   refine wpOp_callR (f:=21) rfl rfl (by go_simp) ((same21 A1 A2 l1 c1 c2 fx _ ra1 ra2).mono fun e u0 h=>?_)
   obtain ⟨rfl,h⟩:=h
   refine ⟨_,rfl,hN0.trans h,?_⟩
   have hNu0:=hN0.trans h
   clear h ra1 ra2 rb1 rb2 rp1 rp2
   walk_nrm
   refine wpAnyG_take (i:=14) (v:=.bool false) rfl (by kernel_rfl) (by kernel_rfl) (by kernel_rfl) (by kernel_rfl) (fun _ _ _ h=>h) (fun l w=>Iff.rfl) (Or.inl ⟨by rfl,fun w5 hS5=>by go_simp⟩) hNu0 ?_
   walk_nrm
   refine wpAnyG_take (i:=15) (v:=.bool false) rfl (by kernel_rfl) (by kernel_rfl) (by kernel_rfl) (by kernel_rfl) (fun _ _ _ h=>h) (fun l w=>Iff.rfl) (Or.inl ⟨by rfl,fun w5 hS5=>by go_simp⟩) hNu0 ?_
   walk_nrm
   refine wpAnyG_take (i:=16) (v:=.bool false) rfl (by kernel_rfl) (by kernel_rfl) (by kernel_rfl) (by kernel_rfl) (fun _ _ _ h=>h) (fun l w=>Iff.rfl) (Or.inl ⟨by rfl,fun w5 hS5=>by go_simp⟩) hNu0 ?_
   walk_nrm
   refine wpAnyG_take (i:=17) (v:=.pointer (some ⟨rb,1,none⟩)) rfl (by kernel_rfl) (by kernel_rfl) (by kernel_rfl) (by kernel_rfl) (fun _ _ _ h=>h) (fun l w=>Iff.rfl) (Or.inl ⟨by rfl,fun w5 hS5=>by go_simp⟩) hNu0 ?_
   walk_nrm
   refine wpAnyG_take (i:=19) (v:=.pointer (some ⟨qb,2,none⟩)) rfl (by kernel_rfl) (by kernel_rfl) (by kernel_rfl) (by kernel_rfl) (fun _ _ _ h=>h) (fun l w=>Iff.rfl) (Or.inl ⟨by rfl,fun w5 hS5=>by go_simp⟩) hNu0 ?_
   walk_nrm
   refine wpAnyG_take (i:=18) (v:=.slice B1 n d1) rfl (by kernel_rfl) (by kernel_rfl) (by kernel_rfl) (by kernel_rfl) (fun _ _ _ h=>h) (fun l w=>Iff.rfl) (Or.inl ⟨by rfl,fun w5 hS5=>by obtain ⟨l5,hN5,-,-⟩:=hS5; obtain ⟨⟨x0,x1,x2⟩,⟨x3,x4⟩,x5,x6,x7,x8⟩:=RD w5 hN5; go_simp⟩) hNu0 ?_
   walk_nrm
   refine wpAnyG_take (i:=20) (v:=.slice B2 n d2) rfl (by kernel_rfl) (by kernel_rfl) (by kernel_rfl) (by kernel_rfl) (fun _ _ _ h=>h) (fun l w=>Iff.rfl) (Or.inl ⟨by rfl,fun w5 hS5=>by obtain ⟨l5,hN5,-,-⟩:=hS5; obtain ⟨⟨x0,x1,x2⟩,⟨x3,x4⟩,x5,x6,x7,x8⟩:=RD w5 hN5; go_simp⟩) hNu0 ?_
   walk_nrm
   refine wpAnyG_all (rs:=[21]) (by kernel_rfl) (by simp) (fun j hj=>?_)
   obtain rfl : j = 21:=by simpa using hj
   obtain ⟨ra1,ra2,rb1,rb2,rp1,rp2⟩:=RR u0 hNu0
   refine wpOp_callR (f:=22) rfl rfl (by go_simp) ((same22 B1 B2 n d1 d2 fo _ rb1 rb2).mono fun e u1 h=>?_)
   obtain ⟨rfl,h⟩:=h
   refine ⟨_,rfl,hNu0.trans h,?_⟩
   have hNu1:=hNu0.trans h
   clear h ra1 ra2 rb1 rb2 rp1 rp2
   walk_nrm
   refine wpAnyG_take (i:=22) (v:=.bool false) rfl (by kernel_rfl) (by kernel_rfl) (by kernel_rfl) (by kernel_rfl) (fun _ _ _ h=>h) (fun l w=>Iff.rfl) (Or.inl ⟨by rfl,fun w5 hS5=>by go_simp⟩) hNu1 ?_
   walk_nrm
   refine wpAnyG_take (i:=23) (v:=.bool false) rfl (by kernel_rfl) (by kernel_rfl) (by kernel_rfl) (by kernel_rfl) (fun _ _ _ h=>h) (fun l w=>Iff.rfl) (Or.inl ⟨by rfl,fun w5 hS5=>by go_simp⟩) hNu1 ?_
   walk_nrm
   refine wpAnyG_take (i:=24) (v:=.bool false) rfl (by kernel_rfl) (by kernel_rfl) (by kernel_rfl) (by kernel_rfl) (fun _ _ _ h=>h) (fun l w=>Iff.rfl) (Or.inl ⟨by rfl,fun w5 hS5=>by go_simp⟩) hNu1 ?_
   walk_nrm
   refine wpAnyG_take (i:=25) (v:=.pointer (some ⟨rb,2,none⟩)) rfl (by kernel_rfl) (by kernel_rfl) (by kernel_rfl) (by kernel_rfl) (fun _ _ _ h=>h) (fun l w=>Iff.rfl) (Or.inl ⟨by rfl,fun w5 hS5=>by go_simp⟩) hNu1 ?_
   walk_nrm
   refine wpAnyG_take (i:=27) (v:=.pointer (some ⟨qb,3,none⟩)) rfl (by kernel_rfl) (by kernel_rfl) (by kernel_rfl) (by kernel_rfl) (fun _ _ _ h=>h) (fun l w=>Iff.rfl) (Or.inl ⟨by rfl,fun w5 hS5=>by go_simp⟩) hNu1 ?_
   walk_nrm
   refine wpAnyG_take (i:=26) (v:=.slice C1 n y1) rfl (by kernel_rfl) (by kernel_rfl) (by kernel_rfl) (by kernel_rfl) (fun _ _ _ h=>h) (fun l w=>Iff.rfl) (Or.inl ⟨by rfl,fun w5 hS5=>by obtain ⟨l5,hN5,-,-⟩:=hS5; obtain ⟨⟨x0,x1,x2⟩,⟨x3,x4⟩,x5,x6,x7,x8⟩:=RD w5 hN5; go_simp⟩) hNu1 ?_
   walk_nrm
   refine wpAnyG_take (i:=28) (v:=.slice C2 n y2) rfl (by kernel_rfl) (by kernel_rfl) (by kernel_rfl) (by kernel_rfl) (fun _ _ _ h=>h) (fun l w=>Iff.rfl) (Or.inl ⟨by rfl,fun w5 hS5=>by obtain ⟨l5,hN5,-,-⟩:=hS5; obtain ⟨⟨x0,x1,x2⟩,⟨x3,x4⟩,x5,x6,x7,x8⟩:=RD w5 hN5; go_simp⟩) hNu1 ?_
   walk_nrm
   refine wpAnyG_all (rs:=[29]) (by kernel_rfl) (by simp) (fun j hj=>?_)
   obtain rfl : j = 29:=by simpa using hj
   obtain ⟨ra1,ra2,rb1,rb2,rp1,rp2⟩:=RR u1 hNu1
   refine wpOp_callR (f:=22) rfl rfl (by go_simp) ((same22 C1 C2 n y1 y2 fp _ rp1 rp2).mono fun e u2 h=>?_)
   obtain ⟨rfl,h⟩:=h
   refine ⟨_,rfl,hNu1.trans h,?_⟩
   have hNu2:=hNu1.trans h
   clear h ra1 ra2 rb1 rb2 rp1 rp2
   walk_nrm
   refine wpAnyG_take (i:=30) (v:=.bool false) rfl (by kernel_rfl) (by kernel_rfl) (by kernel_rfl) (by kernel_rfl) (fun _ _ _ h=>h) (fun l w=>Iff.rfl) (Or.inl ⟨by rfl,fun w5 hS5=>by go_simp⟩) hNu2 ?_
   walk_nrm
   refine wpAnyG_take (i:=31) (v:=.bool false) rfl (by kernel_rfl) (by kernel_rfl) (by kernel_rfl) (by kernel_rfl) (fun _ _ _ h=>h) (fun l w=>Iff.rfl) (Or.inl ⟨by rfl,fun w5 hS5=>by go_simp⟩) hNu2 ?_
   walk_nrm
   refine wpAnyG_take (i:=32) (v:=.bool false) rfl (by kernel_rfl) (by kernel_rfl) (by kernel_rfl) (by kernel_rfl) (fun _ _ _ h=>h) (fun l w=>Iff.rfl) (Or.inl ⟨by rfl,fun w5 hS5=>by go_simp⟩) hNu2 ?_
   walk_nrm
   refine wpAnyG_take (i:=33) (v:=.pointer (some ⟨wp,0,none⟩)) rfl (by kernel_rfl) (by kernel_rfl) (by kernel_rfl) (by kernel_rfl) (fun _ _ _ h=>h) (fun l w=>Iff.rfl) (Or.inl ⟨by rfl,fun w5 hS5=>by go_simp⟩) hNu2 ?_
   walk_nrm
   refine wpAnyG_take (i:=34) (v:=.pointer (some ⟨wp,0,none⟩)) rfl (by kernel_rfl) (by kernel_rfl) (by kernel_rfl) (by kernel_rfl) (fun _ _ _ h=>h) (fun l w=>Iff.rfl) (Or.inl ⟨by rfl,fun w5 hS5=>by go_simp⟩) hNu2 ?_
   walk_nrm
   refine wpAnyG_take (i:=35) (v:=.pointer (some ⟨wp,0,none⟩)) rfl (by kernel_rfl) (by kernel_rfl) (by kernel_rfl) (by kernel_rfl) (fun _ _ _ h=>h) (fun l w=>Iff.rfl) (Or.inl ⟨by rfl,fun w5 hS5=>by go_simp⟩) hNu2 ?_
   walk_nrm
   refine wpAnyG_take (i:=36) (v:=.slice G1 m g1) rfl (by kernel_rfl) (by kernel_rfl) (by kernel_rfl) (by kernel_rfl) (fun _ _ _ h=>h) (fun l w=>Iff.rfl) (Or.inl ⟨by rfl,fun w5 hS5=>by obtain ⟨l5,hN5,-,-⟩:=hS5; obtain ⟨⟨x0,x1,x2⟩,⟨x3,x4⟩,x5,x6,x7,x8⟩:=RD w5 hN5; go_simp⟩) hNu2 ?_
   walk_nrm
   refine wpAnyG_take (i:=37) (v:=.int .i64 (m : Int)) rfl (by kernel_rfl) (by kernel_rfl) (by kernel_rfl) (by kernel_rfl) (fun _ _ _ h=>h) (fun l w=>Iff.rfl) (Or.inl ⟨by rfl,fun w5 hS5=>by go_simp⟩) hNu2 ?_
   walk_nrm
   refine wpAnyG_take (i:=38) (v:=.pointer (some ⟨qb,5,none⟩)) rfl (by kernel_rfl) (by kernel_rfl) (by kernel_rfl) (by kernel_rfl) (fun _ _ _ h=>h) (fun l w=>Iff.rfl) (Or.inl ⟨by rfl,fun w5 hS5=>by go_simp⟩) hNu2 ?_
   walk_nrm
   refine wpAnyG_take (i:=39) (v:=.slice G2 m g2) rfl (by kernel_rfl) (by kernel_rfl) (by kernel_rfl) (by kernel_rfl) (fun _ _ _ h=>h) (fun l w=>Iff.rfl) (Or.inl ⟨by rfl,fun w5 hS5=>by obtain ⟨l5,hN5,-,-⟩:=hS5; obtain ⟨⟨x0,x1,x2⟩,⟨x3,x4⟩,x5,x6,x7,x8⟩:=RD w5 hN5; go_simp⟩) hNu2 ?_
   walk_nrm
   refine wpAnyG_take (i:=40) (v:=.int .i64 (m : Int)) rfl (by kernel_rfl) (by kernel_rfl) (by kernel_rfl) (by kernel_rfl) (fun _ _ _ h=>h) (fun l w=>Iff.rfl) (Or.inl ⟨by rfl,fun w5 hS5=>by go_simp⟩) hNu2 ?_
   walk_nrm
   refine wpAnyG_take (i:=41) (v:=.bool false) rfl (by kernel_rfl) (by kernel_rfl) (by kernel_rfl) (by kernel_rfl) (fun _ _ _ h=>h) (fun l w=>Iff.rfl) (Or.inl ⟨by rfl,fun w5 hS5=>by go_simp⟩) hNu2 ?_
   walk_nrm
   refine wpAnyG_take (i:=42) (v:=.bool false) rfl (by kernel_rfl) (by kernel_rfl) (by kernel_rfl) (by kernel_rfl) (fun _ _ _ h=>h) (fun l w=>Iff.rfl) (Or.inl ⟨by rfl,fun w5 hS5=>by go_simp⟩) hNu2 ?_
   walk_nrm
   refine wpAnyG_done (by kernel_rfl) ?_ _
   exact ⟨⟨⟨by simp,rfl,rfl,rfl,rfl⟩,rfl,rfl,kp_new hNu2⟩,rfl⟩
 · obtain ⟨T',df⟩:=a'
   simp only at ha' q0 q1
   subst ha'
   exact K T' V' q0 q1 q2 q3
end
end Go.Proofs.Ytibcdikfbhmheaa

namespace Go.Proofs.Ytibcdikfbhmheaa
open Go Go.Conc Go.Proofs
open Go.ConcN (sumTo upd sumTo_upd upd_ne upd_same)
set_option linter.unusedVariables false
def Nt2 (V : World) (A : Option Addr) (l : List (Nat × Nat)) : Prop:=0 < l.length → ∃ g,A = some ⟨g,0,none⟩ ∧ g < V.heap.size ∧ ∀ j,j < l.length → V.cell? ⟨g,j * 2,none⟩ = some (.int .i64 ((l.getD j (0,0)).1 : Int)) ∧ V.cell? ⟨g,j * 2 + 1,none⟩ = some (.int .i64 ((l.getD j (0,0)).2 : Int))
theorem Nt2.kp {V V' : World} {A : Option Addr} {l : List (Nat × Nat)} (h : Nt2 V A l) (k : Kp V V') : Nt2 V' A l:=fun h0=>by
 obtain ⟨g,e,hg,c⟩:=h h0
 exact ⟨g,e,Nat.lt_of_lt_of_le hg k.size,fun j hj=>⟨k.cell (c j hj).1,k.cell (c j hj).2⟩⟩
theorem XLq_eq : XLq = .seq (.seq W9n (.cond (.tmp 81) .skip (.exit 0))) (.seq (.block 1 (.seq W11n (.cond (.tmp 96) (.seq (nva (nvc2 (nvb (nvk (nva (nvb XLq)))))) .ret) .skip))) W10n):=by simp only [W6n,W8n,W9n,W10n,W11n,XLq,XEq,X6w,X7w,B3w,nva,nvb,nvk,nvl,nvc2,Try.f3,Option.getD_some]
theorem X6w_eq : X6w = .seq (.seq W6n (.cond (.tmp 74) (.seq (nva (nvc2 (nvb (nva X6w)))) .ret) .skip)) (.seq (.seq W8n (.block 0 (.loop XLq))) XEq):=by simp only [W6n,W8n,W9n,W10n,W11n,XLq,XEq,X6w,X7w,B3w,nva,nvb,nvk,nvl,nvc2,Try.f3,Option.getD_some]
section
variable {V : World} {Z : Cuts} {Post : Value → World → Prop} {rb wp qb m k : Nat} {g1 g2 : Nat} {G1 G2 : Option Addr} {v0 v1 v2 v3 v4 : Value} {l : List (Nat × Nat)} {T : Array Value} {kt : List Item} {cs0 : List Frame}
theorem w_r8 (hn : norm V = V) (hT : HW T rb wp qb)
   (K : ∀ T',HW T' rb wp qb → T'[12]? = some (.int .i64 0) → To0 Try.prog Post Z V (G ((base 3).at ⟨T',[]⟩ kt) cs0)) :
   To0 Try.prog Post Z V (G ((base 3).at ⟨T,[]⟩ (.code W8n :: kt)) cs0):=by
 refine To0.walk (will_code (L:=Lone) (R:=fun a' V'=>V' = V ∧ HW a'.tmps rb wp qb ∧ a'.tmps[12]? = some (.int .i64 0)) calm rfl ⟨_,Try.func3⟩ rfl (by kernel_rfl) (fun τ=>?_) fun a' V' ⟨q0,q1,g12⟩ ha'=>Will.stop ?_)
 · obtain ⟨hs,t8,t9,t10,t11⟩:=hT
   clear K
   obtain ⟨f,hf,hT⟩:=array98f T hs
   have et8:=hf 8 _ t8
   have et9:=hf 9 _ t9
   have et10:=hf 10 _ t10
   have et11:=hf 11 _ t11
   clear hf hs t8 t9 t10 t11
   subst hT
   simp only [et8,et9,et10,et11]
   clear et8 et9 et10 et11
   simp only [W6n,W8n,W9n,W10n,W11n,XLq,XEq,X6w,X7w,B3w,nva,nvb,nvk,nvl,nvc2,Try.f3,Option.getD_some]
   go_wp2_with fail
   all_goals (first | exact ⟨hn,⟨by simp,rfl,rfl,rfl,rfl⟩⟩ | exact ⟨hn,⟨by simp,rfl,rfl,rfl,rfl⟩,rfl⟩ | exact ⟨hn,⟨by simp,rfl,rfl,rfl,rfl⟩,rfl,rfl⟩ | (simp at hx; refine ⟨hn,⟨by simp,rfl,rfl,rfl,rfl⟩,?_⟩; omega) | (exfalso; simp at hx; omega))
 · obtain ⟨T',df⟩:=a'
   simp only at ha' q1 g12
   subst ha' q0
   exact K T' q1 g12
theorem w_r9 (hn : norm V = V) {x : Bool} (hx : decide ((k : Int) < (m : Int)) = x) (hw : V.heap[wp]? = some (.cells #[.slice G1 m g1,.bool false] 37 (0,0))) (hT : HW T rb wp qb) (h12 : T[12]? = some (.int .i64 (k : Int)))
   (K : ∀ T',HW T' rb wp qb → T'[12]? = some (.int .i64 (k : Int)) → T'[81]? = some (.bool x) → To0 Try.prog Post Z V (G ((base 3).at ⟨T',[]⟩ kt) cs0)) :
   To0 Try.prog Post Z V (G ((base 3).at ⟨T,[]⟩ (.code W9n :: kt)) cs0):=by
 refine To0.walk (will_code (L:=Lone) (R:=fun a' V'=>V' = V ∧ HW a'.tmps rb wp qb ∧ a'.tmps[12]? = some (.int .i64 (k : Int)) ∧ a'.tmps[81]? = some (.bool x)) calm rfl ⟨_,Try.func3⟩ rfl (by kernel_rfl) (fun τ=>?_) fun a' V' ⟨q0,q1,g12,g81⟩ ha'=>Will.stop ?_)
 · obtain ⟨hs,t8,t9,t10,t11⟩:=hT
   have d1 : (re V τ 0).cell? ⟨wp,0,none⟩ = some (.slice G1 m g1):=cell_of hw (by simp)
   clear hw
   clear K
   obtain ⟨f,hf,hT⟩:=array98f T hs
   have et8:=hf 8 _ t8
   have et9:=hf 9 _ t9
   have et10:=hf 10 _ t10
   have et11:=hf 11 _ t11
   have eh12:=hf 12 _ h12
   clear hf hs t8 t9 t10 t11 h12
   subst hT
   simp only [et8,et9,et10,et11,eh12]
   clear et8 et9 et10 et11 eh12
   simp only [W6n,W8n,W9n,W10n,W11n,XLq,XEq,X6w,X7w,B3w,nva,nvb,nvk,nvl,nvc2,Try.f3,Option.getD_some]
   cases x
   all_goals (go_wp2_with fail)
   all_goals (first | exact ⟨hn,⟨by simp,rfl,rfl,rfl,rfl⟩⟩ | exact ⟨hn,⟨by simp,rfl,rfl,rfl,rfl⟩,rfl⟩ | exact ⟨hn,⟨by simp,rfl,rfl,rfl,rfl⟩,rfl,rfl⟩ | (simp at hx; refine ⟨hn,⟨by simp,rfl,rfl,rfl,rfl⟩,?_⟩; omega) | (exfalso; simp at hx; omega))
 · obtain ⟨T',df⟩:=a'
   simp only at ha' q1 g12 g81
   subst ha' q0
   exact K T' q1 g12 g81
theorem w_r10 (hn : norm V = V) (hk : k < 2000000000) (hT : HW T rb wp qb) (h12 : T[12]? = some (.int .i64 (k : Int)))
   (K : ∀ T',HW T' rb wp qb → T'[12]? = some (.int .i64 ((k + 1 : Nat) : Int)) → To0 Try.prog Post Z V (G ((base 3).at ⟨T',[]⟩ kt) cs0)) :
   To0 Try.prog Post Z V (G ((base 3).at ⟨T,[]⟩ (.code W10n :: kt)) cs0):=by
 refine To0.walk (will_code (L:=Lone) (R:=fun a' V'=>V' = V ∧ HW a'.tmps rb wp qb ∧ a'.tmps[12]? = some (.int .i64 ((k + 1 : Nat) : Int))) calm rfl ⟨_,Try.func3⟩ rfl (by kernel_rfl) (fun τ=>?_) fun a' V' ⟨q0,q1,g12⟩ ha'=>Will.stop ?_)
 · obtain ⟨hs,t8,t9,t10,t11⟩:=hT
   have w1 : IntKind.i64.wrap ((k : Int) + 1) = ((k + 1 : Nat) : Int):=by rw [IntKind.wrap_i64]; omega
   clear K
   obtain ⟨f,hf,hT⟩:=array98f T hs
   have et8:=hf 8 _ t8
   have et9:=hf 9 _ t9
   have et10:=hf 10 _ t10
   have et11:=hf 11 _ t11
   have eh12:=hf 12 _ h12
   clear hf hs t8 t9 t10 t11 h12
   subst hT
   simp only [et8,et9,et10,et11,eh12]
   clear et8 et9 et10 et11 eh12
   simp only [W6n,W8n,W9n,W10n,W11n,XLq,XEq,X6w,X7w,B3w,nva,nvb,nvk,nvl,nvc2,Try.f3,Option.getD_some]
   go_wp2_with fail
   all_goals (first | exact ⟨hn,⟨by simp,rfl,rfl,rfl,rfl⟩⟩ | exact ⟨hn,⟨by simp,rfl,rfl,rfl,rfl⟩,rfl⟩ | exact ⟨hn,⟨by simp,rfl,rfl,rfl,rfl⟩,rfl,rfl⟩ | (simp at hx; refine ⟨hn,⟨by simp,rfl,rfl,rfl,rfl⟩,?_⟩; omega) | (exfalso; simp at hx; omega))
 · obtain ⟨T',df⟩:=a'
   simp only at ha' q1 g12
   subst ha' q0
   exact K T' q1 g12
theorem w_r11 (hn : norm V = V) (hk : k < m) (hw : V.heap[wp]? = some (.cells #[.slice G1 m g1,.bool false] 37 (0,0))) (hq : V.heap[qb]? = some (.cells #[v0,v1,v2,v3,v4,.slice G2 m g2] 34 (0,0))) {ga gb : Nat} {x y : Int} (e1 : G1 = some ⟨ga,0,none⟩) (e2 : G2 = some ⟨gb,0,none⟩) (c1 : V.cell? ⟨ga,k * 2,none⟩ = some (.int .i64 x)) (c2 : V.cell? ⟨ga,k * 2 + 1,none⟩ = some (.int .i64 y)) (c3 : V.cell? ⟨gb,k * 2,none⟩ = some (.int .i64 x)) (c4 : V.cell? ⟨gb,k * 2 + 1,none⟩ = some (.int .i64 y)) (hT : HW T rb wp qb) (h12 : T[12]? = some (.int .i64 (k : Int)))
   (K : ∀ T',HW T' rb wp qb → T'[12]? = some (.int .i64 (k : Int)) → T'[96]? = some (.bool false) → To0 Try.prog Post Z V (G ((base 3).at ⟨T',[]⟩ kt) cs0)) :
   To0 Try.prog Post Z V (G ((base 3).at ⟨T,[]⟩ (.code W11n :: kt)) cs0):=by
 refine To0.walk (will_code (L:=Lone) (R:=fun a' V'=>V' = V ∧ HW a'.tmps rb wp qb ∧ a'.tmps[12]? = some (.int .i64 (k : Int)) ∧ a'.tmps[96]? = some (.bool false)) calm rfl ⟨_,Try.func3⟩ rfl (by kernel_rfl) (fun τ=>?_) fun a' V' ⟨q0,q1,g12,g96⟩ ha'=>Will.stop ?_)
 · obtain ⟨hs,t8,t9,t10,t11⟩:=hT
   have d1 : (re V τ 0).cell? ⟨wp,0,none⟩ = some (.slice G1 m g1):=cell_of hw (by simp)
   clear hw
   have d2 : (re V τ 0).cell? ⟨qb,5,none⟩ = some (.slice G2 m g2):=cell_of hq (by simp)
   clear hq
   have L1 : ∀ τ,(re V τ 0).cell? ⟨ga,k * 2,none⟩ = some (.int .i64 x):=fun τ=>c1
   have L2 : ∀ τ,(re V τ 0).cell? ⟨ga,k * 2 + 1,none⟩ = some (.int .i64 y):=fun τ=>c2
   have L3 : ∀ τ,(re V τ 0).cell? ⟨gb,k * 2,none⟩ = some (.int .i64 x):=fun τ=>c3
   have L4 : ∀ τ,(re V τ 0).cell? ⟨gb,k * 2 + 1,none⟩ = some (.int .i64 y):=fun τ=>c4
   have EQ:=eq41 x y x y
   have q2 : ¬ ((k : Int) < 0):=by omega
   have q3 : ¬ ((m : Int) ≤ (k : Int)):=by omega
   subst e1 e2
   clear c1 c2 c3 c4
   clear K
   obtain ⟨f,hf,hT⟩:=array98f T hs
   have et8:=hf 8 _ t8
   have et9:=hf 9 _ t9
   have et10:=hf 10 _ t10
   have et11:=hf 11 _ t11
   have eh12:=hf 12 _ h12
   clear hf hs t8 t9 t10 t11 h12
   subst hT
   simp only [et8,et9,et10,et11,eh12]
   clear et8 et9 et10 et11 eh12
   simp only [W6n,W8n,W9n,W10n,W11n,XLq,XEq,X6w,X7w,B3w,nva,nvb,nvk,nvl,nvc2,Try.f3,Option.getD_some]
   go_wp2
   go_quiet (fail)
   go_wp2
   all_goals (first | exact ⟨hn,⟨by simp,rfl,rfl,rfl,rfl⟩⟩ | exact ⟨hn,⟨by simp,rfl,rfl,rfl,rfl⟩,rfl⟩ | exact ⟨hn,⟨by simp,rfl,rfl,rfl,rfl⟩,rfl,rfl⟩ | (simp at hx; refine ⟨hn,⟨by simp,rfl,rfl,rfl,rfl⟩,?_⟩; omega) | (exfalso; simp at hx; omega))
 · obtain ⟨T',df⟩:=a'
   simp only at ha' q1 g12 g96
   subst ha' q0
   exact K T' q1 g12 g96
end
end Go.Proofs.Ytibcdikfbhmheaa
