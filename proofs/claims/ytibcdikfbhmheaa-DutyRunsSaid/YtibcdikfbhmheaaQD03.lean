import Derived.Test.YtibcdikfbhmheaaQD02
import Derived.Test.YtibcdikfbhmheaaB12
set_option linter.unusedSimpArgs false
set_option linter.unusedVariables false
set_option maxRecDepth 100000
set_option maxHeartbeats 4000000
namespace Go.Proofs.Ytibcdikfbhmheaa
open Go Go.Conc Go.Proofs
open Go.ConcN (sumTo upd sumTo_upd upd_ne upd_same)
set_option linter.unusedVariables false
def fov (st : Nat → Int) (j : Nat) : Bool:=decide (cl (st j) = 3)
def fpk (st : Nat → Int) (j : Nat) : Bool:=decide (cl (st j) = 2)
structure AR (k : Tk) (l0 : List (Int × Int)) : Prop where
 row : ∃ g o r rc,k.la = some ⟨g,o,none⟩ ∧ g < k.V0.heap.size ∧ k.V0.cell? ⟨g,o + k.i,none⟩ = some (.slice r l0.length rc) ∧ (0 < l0.length → ∃ h q,r = some ⟨h,q,none⟩ ∧ h < k.V0.heap.size ∧ ∀ j (hj : j < l0.length),k.V0.cell? ⟨h,q + j * 2,none⟩ = some (.int .i64 (l0[j]'hj).1) ∧ k.V0.cell? ⟨h,q + j * 2 + 1,none⟩ = some (.int .i64 (l0[j]'hj).2))
 len : l0.length < 900000000
theorem fov_set (st : Nat → Int) (i : Nat) : fov (upd st i 3) = upd (fov st) i true:=by
 funext j
 by_cases e : j = i
 · subst e; unfold fov; rw [upd_same,upd_same]; rfl
 · unfold fov; rw [upd_ne _ _ e,upd_ne _ _ e]
theorem fpk_set (st : Nat → Int) (i : Nat) : fpk (upd st i 2) = upd (fpk st) i true:=by
 funext j
 by_cases e : j = i
 · subst e; unfold fpk; rw [upd_same,upd_same]; rfl
 · unfold fpk; rw [upd_ne _ _ e,upd_ne _ _ e]
theorem fov_keep (st : Nat → Int) (i : Nat) (x : Int) (h1 : cl (st i) ≠ 3) (h2 : cl x ≠ 3) : fov (upd st i x) = fov st:=by
 funext j
 by_cases e : j = i
 · subst e; unfold fov; rw [upd_same,decide_eq_false h1,decide_eq_false h2]
 · unfold fov; rw [upd_ne _ _ e]
theorem fpk_keep (st : Nat → Int) (i : Nat) (x : Int) (h1 : cl (st i) ≠ 2) (h2 : cl x ≠ 2) : fpk (upd st i x) = fpk st:=by
 funext j
 by_cases e : j = i
 · subst e; unfold fpk; rw [upd_same,decide_eq_false h1,decide_eq_false h2]
 · unfold fpk; rw [upd_ne _ _ e]
theorem fov_wake (n : Nat) (st : Nat → Int) (y : Int) : fov (wake n st y) = fov st:=by
 unfold wake
 split
 · rename_i h
   exact fov_keep _ _ _ (by rw [h.2.2]; decide) (by decide)
 · rfl
theorem fpk_wake {n : Nat} (st : Nat → Int) {m : Nat} (h : m < n) : fpk (wake n st (m : Int)) = upd (fpk st) m false:=by
 unfold wake
 by_cases e : st m = 2
 · rw [if_pos ⟨by omega,by omega,by simpa using e⟩]
   funext j
   by_cases e2 : j = m
   · subst e2; unfold fpk; rw [Int.toNat_natCast,upd_same,upd_same]; rfl
   · unfold fpk; rw [Int.toNat_natCast,upd_ne _ _ e2,upd_ne _ _ e2]
 · rw [if_neg (fun k=>e (by simpa using k.2.2))]
   funext j
   by_cases e2 : j = m
   · subst e2; unfold fpk; rw [upd_same]; exact decide_eq_false (fun h=>e ((cl_two _).1 h))
   · rw [upd_ne _ _ e2]
theorem wake_no {n : Nat} (st : Nat → Int) {y : Int} (h : ¬ (0 ≤ y ∧ y < (n : Int))) : wake n st y = st:=if_neg fun k=>h ⟨k.1,k.2.1⟩
theorem wake_self {n i : Nat} (st : Nat → Int) {y : Int} (h : st i ≠ 2) : wake n st y i = st i:=by
 unfold wake
 split
 · rename_i k
   refine upd_ne _ _ fun e=>h ?_
   rw [e]; exact k.2.2
 · rfl
theorem kp_cell {V V' : World} {p : Addr} {v : Value} (h : Kp V V') (hc : V.cell? p = some v) (hb : p.block < V.heap.size) : V'.cell? p = some v:=by
 rw [← hc]
 unfold World.cell?
 rw [h.keep _ hb]
section
variable {k : Tk} {l0 : List (Int × Int)} {at_ : Nat → Nat} {lg : List (Nat × Nat)} {fo fp : Nat → Bool} {xs : List Nat} {V : World} {odv lgv : Value} {Z : Cuts} {Post : Value → World → Prop} {T : Array Value} {b₀ : Frame} {a₀ : Act} {ops₀ : Array Oper} {i₀ : Nat} {rest₀ : List Nat} {k₀ : List Item} {cs0 : List Frame}
theorem t_pre (O : k.Ok) (A : AR k l0) (I : TI k at_ lg fo fp xs V odv lgv) {p : Nat} (hp : at_ k.i = p) {d y : Int} (hpl : p < l0.length) (hd : l0[p]'hpl = (d,y)) (hl : lg.length < 900000000) (hT : HT9 T k.i k.sb k.rb k.av k.ov k.pv)
   (K : ∀ V' T' lgv' tb,TI k (upd at_ k.i (p + 1)) (lg ++ [(k.i,p)]) fo fp xs V' odv lgv' → HT9 T' k.i k.sb k.rb k.av k.ov k.pv → T'[8]? = some (.pointer (some ⟨tb,0,none⟩)) → V'.heap[tb]? = some (.cells #[.int .i64 d,.int .i64 y] 203 (0,0)) → tb ≠ k.go → tb ≠ k.gp → To0 Try.prog Post Z V' (G ((base 76).at ⟨T',[]⟩ [.code W1n,.code (.seq W2n (.seq W3n F17n)),.inBlock 1,.inLoop TL,.inBlock 0,.code TZ]) cs0)) :
   To0 Try.prog Post Z V (G ((base 76).at ⟨T,[]⟩ [.code TL,.inLoop TL,.inBlock 0,.code TZ]) cs0):=by
 obtain ⟨g,o,r,rc,a1,a2,a3,a4⟩:=A.row
 obtain ⟨h,q,rfl,a5,a6⟩:=a4 (by omega)
 obtain ⟨a7,a8⟩:=a6 p hpl
 rw [hd] at a7 a8
 obtain ⟨n1,n2,n3,n4,n5,n6,n7,n8,n9,n10⟩:=O.ne
 have hlen:=A.len
 refine t_test O I a1 (kp_cell I.kp a3 a2) hp hT (fun _ T1 hT1=>?_) (fun hno=>absurd hpl hno)
 have c1 : V.cell? ⟨k.sb,0,none⟩ = some (.slice (some ⟨g,o,none⟩) k.n k.lc):=by rw [← a1]; exact cell_of I.sbc (by simp)
 have c2 : V.cell? ⟨k.ga,k.i,none⟩ = some (.int .i64 (p : Int)):=by rw [← hp]; exact (row_cell I.a (rowN_at O.hi)).1
 refine t_r8 I.nrm O.hi hpl ⟨c1,kp_cell I.kp a3 a2,c2,kp_cell I.kp a7 a5,kp_cell I.kp a8 a5⟩ hT1 fun T2 V2 hT2 h82 hn2 hk2 ht2=>?_
 have I2:=I.more O hn2 hk2
 rw [T2n_eq]
 refine mu_seq mu_to0 ?_
 have c3 : V2.cell? ⟨k.ga,k.i,none⟩ = some (.int .i64 (p : Int)):=by rw [← hp]; exact (row_cell I2.a (rowN_at O.hi)).1
 refine t_r9 hn2 O.hi n2 c3 (gv:=lgv) (cell_of I2.sbc (by simp)) (by simp [World.frozen?,I2.sbc]) I2.lg hl hT2 h82 fun T3 V3 v3 hT3 h83 hn3 hk3 hr3 hv3=>?_
 have I3:=I2.log O hn3 hk3 hr3
 have htb : V.heap.size < V2.heap.size:=(Array.getElem?_eq_some_iff.1 ht2).1
 have ltb : ∀ b,b < V.heap.size → V.heap.size ≠ b:=fun b hb=>by omega
 have lsb : k.sb < V.heap.size:=(Array.getElem?_eq_some_iff.1 I.sbc).1
 have lga : k.ga < V.heap.size:=by obtain ⟨c,hc⟩:=tyB I.a; exact (Array.getElem?_eq_some_iff.1 hc).1
 have lgo : k.go < V.heap.size:=by obtain ⟨c,hc⟩:=tyB I.o; exact (Array.getElem?_eq_some_iff.1 hc).1
 have lgp : k.gp < V.heap.size:=by obtain ⟨c,hc⟩:=tyB I.q; exact (Array.getElem?_eq_some_iff.1 hc).1
 have ht3 : (V3.setCell ⟨k.sb,5,none⟩ v3).heap[V.heap.size]? = some (.cells #[.int .i64 d,.int .i64 y] 203 (0,0)):=by
   rw [set_off _ _ (ltb _ lsb),hk3.keep _ htb]; exact ht2
 refine mu_seq mu_to0 ?_
 have c4:=row_cell I3.a (rowN_at (f:=at_) O.hi)
 rw [hp] at c4
 refine t_r10 I3.nrm O.hi (by omega) c4.1 c4.2 hT3 h83 fun T4 hT4 h84=>?_
 have I4:=I3.setA O (p + 1)
 have ht4 : ((V3.setCell ⟨k.sb,5,none⟩ v3).setCell ⟨k.ga,k.i,none⟩ (.int .i64 (p + 1 : Nat))).heap[V.heap.size]? = some (.cells #[.int .i64 d,.int .i64 y] 203 (0,0)):=by
   rw [set_off _ _ (ltb _ lga)]; exact ht3
 refine mu_seq mu_to0 ?_
 exact K _ T4 v3 V.heap.size I4 hT4 h84 ht4 (ltb _ lgo) (ltb _ lgp)
def tRes (k : Tk) (odv lgv : Value) : Value:=.agg #[.slice k.la k.n k.lc,k.av,k.ov,k.pv,odv,lgv]
theorem t_loop (O : k.Ok) (A : AR k l0) : ∀ (l : List (Int × Int)) (p : Nat) (s : TS) (V : World) (T : Array Value) (lgv : Value),l = l0.drop p → p ≤ l0.length → s.at_ k.i = p → (s.st k.i = 0 ∨ s.st k.i = 1) → s.log.length + (l0.length - p) < 900000000 → TI k s.at_ s.log (fov s.st) (fpk s.st) xs V odv lgv → HT9 T k.i k.sb k.rb k.av k.ov k.pv →
   (∀ V' lgv',TEn k (tgo k.n k.i l p s).at_ (tgo k.n k.i l p s).log (fov (tgo k.n k.i l p s).st) (fpk (tgo k.n k.i l p s).st) xs V' odv lgv' → To0 Try.prog Post Z V' (G (b₀.at (a₀.put ((ops₀[i₀]?).bind (·.dst)) (tRes k odv lgv')) (.inRegion ops₀ rest₀ :: k₀)) cs0)) →
   To0 Try.prog Post Z V (G ((base 76).at ⟨T,[]⟩ [.code TL,.inLoop TL,.inBlock 0,.code TZ]) (b₀.at a₀ (.inRegion ops₀ (i₀ :: rest₀) :: k₀) :: cs0)):=by
 intro l
 induction l with
 | nil =>
   intro p s V T lgv hl hp hat hst hlg I hT K
   have hpe : p = l0.length:=by
     have:=congrArg List.length hl
     simp at this
     omega
   obtain ⟨g,o,r,rc,a1,a2,a3,a4⟩:=A.row
   have g1 : cl (s.st k.i) ≠ 3 ∧ cl (s.st k.i) ≠ 2:=by rcases hst with h | h <;> rw [h] <;> decide
   refine t_test O I a1 (kp_cell I.kp a3 a2) hat hT (fun h=>absurd h (by omega)) (fun _ T1 hT1=>?_)
   rw [TZ_eq]
   refine mu_seq mu_to0 ?_
   have c:=row_cell I.o (rowB_at (f:=fov s.st) O.hi)
   refine t_r20 I.nrm O.hi c.1 c.2 hT1 fun T2 hT2=>?_
   have I2:=I.setO O O.hi true
   refine t_endB O I2 hT2 fun V' E=>?_
   refine K V' lgv ?_
   show TEn k s.at_ s.log (fov (upd s.st k.i 3)) (fpk (upd s.st k.i 3)) xs V' odv lgv
   rw [fov_set,fpk_keep _ _ _ g1.2 (by decide)]
   exact E
 | cons a r ih =>
   intro p s V T lgv hl hp hat hst hlg I hT K
   obtain ⟨d,y⟩:=a
   have hpl : p < l0.length:=by
     have:=congrArg List.length hl
     simp at this
     omega
   have hd : l0[p]'hpl = (d,y) ∧ r = l0.drop (p + 1):=by
     rw [List.drop_eq_getElem_cons hpl] at hl
     injection hl with h1 h2
     exact ⟨h1.symm,h2⟩
   have g1 : cl (s.st k.i) ≠ 3 ∧ cl (s.st k.i) ≠ 2:=by rcases hst with h | h <;> rw [h] <;> decide
   have g2 : s.st k.i ≠ 2:=by rcases hst with h | h <;> rw [h] <;> decide
   have hf0 : fov s.st k.i = false:=decide_eq_false g1.1
   refine t_pre O A I hat hpl hd.1 (by omega) hT fun V1 T1 lgv1 tb I1 hT1 h81 ht1 hgo hgp=>?_
   have c0:=cell_of (k:=0) (v:=.int .i64 d) ht1 (by simp)
   have c1:=cell_of (k:=1) (v:=.int .i64 y) ht1 (by simp)
   by_cases e2 : d = 2
   · subst e2
     have fin : ∀ V2 T2,TI k (upd s.at_ k.i (p + 1)) (s.log ++ [(k.i,p)]) (fov s.st) (fpk (wake k.n s.st y)) xs V2 odv lgv1 → HT9 T2 k.i k.sb k.rb k.av k.ov k.pv → T2[8]? = some (.pointer (some ⟨tb,0,none⟩)) → V2.heap[tb]? = some (.cells #[.int .i64 2,.int .i64 y] 203 (0,0)) → To0 Try.prog Post Z V2 (G ((base 76).at ⟨T2,[]⟩ [.code (.seq W2n (.seq W3n F17n)),.inBlock 1,.inLoop TL,.inBlock 0,.code TZ]) (b₀.at a₀ (.inRegion ops₀ (i₀ :: rest₀) :: k₀) :: cs0)):=by
       intro V2 T2 I2 hT2 h82 ht2
       have c0:=cell_of (k:=0) (v:=.int .i64 2) ht2 (by simp)
       refine mu_seq mu_to0 (t_pn I2.nrm O.hi c0 (by decide) hT2 h82 fun T3 hT3 h83=>?_)
       refine mu_seq mu_to0 (t_on I2.nrm O.hi c0 (by decide) hT3 h83 fun T4 hT4 h84=>?_)
       refine t_f17 O I2 c0 hT4 h84 (fun h=>?_) fun _ T5 hT5=>?_
       · rcases h with h | h | h
         · cases h
         · cases h
         · rw [hf0] at h; cases h
       refine mu_inBlock mu_to0 (mu_inLoop mu_to0 ?_)
       have e : tgo k.n k.i ((2,y) :: r) p s = tgo k.n k.i r (p + 1) { s.note k.i p with st:=wake k.n s.st y }:=by
         rw [tgo,if_neg (by decide),if_neg (by decide),if_pos rfl]
       rw [e] at K
       refine ih (p + 1) { s.note k.i p with st:=wake k.n s.st y } V2 T5 lgv1 hd.2 hpl (upd_same _ _ _) (by show wake k.n s.st y k.i = 0 ∨ wake k.n s.st y k.i = 1; rw [wake_self _ g2]; exact hst) ?_ ?_ hT5 K
       · show (s.log ++ [(k.i,p)]).length + _ < _
         simp; omega
       · show TI k (upd s.at_ k.i (p + 1)) (s.log ++ [(k.i,p)]) (fov (wake k.n s.st y)) (fpk (wake k.n s.st y)) xs V2 odv lgv1
         rw [fov_wake]; exact I2
     by_cases hy : 0 ≤ y ∧ y < (k.n : Int)
     · obtain ⟨m,rfl⟩ : ∃ m : Nat,y = m:=⟨y.toNat,by omega⟩
       have hm : m < k.n:=by omega
       have cc:=row_cell I1.q (rowB_at (f:=fpk s.st) hm)
       refine t_wy I1.nrm O.hi c0 c1 hm cc.1 cc.2 hT1 h81 fun T2 hT2 h82=>?_
       refine fin _ T2 ?_ hT2 h82 (by rw [set_off _ _ hgp]; exact ht1)
       rw [fpk_wake _ hm]
       exact I1.setP O hm false
     · refine t_wn I1.nrm O.hi c0 c1 (fun h=>hy h.2) hT1 h81 fun T2 hT2 h82=>?_
       refine fin _ T2 ?_ hT2 h82 ht1
       rw [wake_no _ hy]; exact I1
   refine t_wn I1.nrm O.hi c0 c1 (fun h=>e2 h.1) hT1 h81 fun T2 hT2 h82=>?_
   by_cases e1 : d = 1
   · subst e1
     have cc:=row_cell I1.q (rowB_at (f:=fpk s.st) O.hi)
     refine mu_seq mu_to0 (t_py I1.nrm O.hi c0 cc.1 cc.2 hT2 h82 fun T3 hT3 h83=>?_)
     have I2:=I1.setP O O.hi true
     have ht2 : (V1.setCell ⟨k.gp,k.i,none⟩ (.bool true)).heap[tb]? = some (.cells #[.int .i64 1,.int .i64 y] 203 (0,0)):=by rw [set_off _ _ hgp]; exact ht1
     have c0:=cell_of (k:=0) (v:=.int .i64 1) ht2 (by simp)
     refine mu_seq mu_to0 (t_on I2.nrm O.hi c0 (by decide) hT3 h83 fun T4 hT4 h84=>?_)
     refine t_f17 O I2 c0 hT4 h84 (fun _ T5 hT5=>?_) fun h=>absurd (.inr (.inl rfl)) h
     refine t_endA O I2 hT5 fun V' E=>K V' lgv1 ?_
     rw [tgo,if_neg (by decide),if_pos rfl]
     show TEn k (upd s.at_ k.i (p + 1)) (s.log ++ [(k.i,p)]) (fov (upd s.st k.i 2)) (fpk (upd s.st k.i 2)) xs V' odv lgv1
     rw [fpk_set,fov_keep _ _ _ g1.1 (by decide)]
     exact E
   refine mu_seq mu_to0 (t_pn I1.nrm O.hi c0 e1 hT2 h82 fun T3 hT3 h83=>?_)
   by_cases e4 : d = 4 ∨ d = 5
   · have cc:=row_cell I1.o (rowB_at (f:=fov s.st) O.hi)
     refine mu_seq mu_to0 (t_oy I1.nrm O.hi c0 e4 cc.1 cc.2 hT3 h83 fun T4 hT4 h84=>?_)
     have I2:=I1.setO O O.hi true
     have ht2 : (V1.setCell ⟨k.go,k.i,none⟩ (.bool true)).heap[tb]? = some (.cells #[.int .i64 d,.int .i64 y] 203 (0,0)):=by rw [set_off _ _ hgo]; exact ht1
     have c0:=cell_of (k:=0) (v:=.int .i64 d) ht2 (by simp)
     refine t_f17 O I2 c0 hT4 h84 (fun _ T5 hT5=>?_) fun h=>absurd (.inr (.inr (upd_same _ _ _))) h
     refine t_endA O I2 hT5 fun V' E=>K V' lgv1 ?_
     rw [tgo,if_neg (by omega),if_neg (by omega),if_neg (by omega),if_pos e4]
     show TEn k (upd s.at_ k.i (p + 1)) (s.log ++ [(k.i,p)]) (fov (upd s.st k.i 3)) (fpk (upd s.st k.i 3)) xs V' odv lgv1
     rw [fov_set,fpk_keep _ _ _ g1.2 (by decide)]
     exact E
   refine mu_seq mu_to0 (t_on I1.nrm O.hi c0 e4 hT3 h83 fun T4 hT4 h84=>?_)
   by_cases e0 : d = 0
   · refine t_f17 O I1 c0 hT4 h84 (fun _ T5 hT5=>?_) fun h=>absurd (.inl e0) h
     refine t_endA O I1 hT5 fun V' E=>K V' lgv1 ?_
     rw [tgo,if_pos e0]
     show TEn k (upd s.at_ k.i (p + 1)) (s.log ++ [(k.i,p)]) (fov (upd s.st k.i 1)) (fpk (upd s.st k.i 1)) xs V' odv lgv1
     rw [fov_keep _ _ _ g1.1 (by decide),fpk_keep _ _ _ g1.2 (by decide)]
     exact E
   · refine t_f17 O I1 c0 hT4 h84 (fun h=>?_) fun _ T5 hT5=>?_
     · rcases h with h | h | h
       · exact absurd h e0
       · exact absurd h e1
       · rw [hf0] at h; cases h
     refine mu_inBlock mu_to0 (mu_inLoop mu_to0 ?_)
     have e : tgo k.n k.i ((d,y) :: r) p s = tgo k.n k.i r (p + 1) (s.note k.i p):=by
       rw [tgo,if_neg e0,if_neg e1,if_neg e2,if_neg e4]
     rw [e] at K
     refine ih (p + 1) (s.note k.i p) V1 T5 lgv1 hd.2 hpl (upd_same _ _ _) hst ?_ I1 hT5 K
     show (s.log ++ [(k.i,p)]).length + _ < _
     simp; omega
end
end Go.Proofs.Ytibcdikfbhmheaa

namespace Go.Proofs.Ytibcdikfbhmheaa
open Go Go.Conc Go.Proofs
open Go.ConcN (sumTo upd sumTo_upd upd_ne upd_same)
set_option linter.unusedVariables false
noncomputable def R0n : Code:=nva B76
noncomputable def R1n : Code:=nva (nva (nvb B76))
noncomputable def R2n : Code:=nva (nvc2 (nvb (nva (nvb B76))))
theorem B76_eq : B76 = .seq R0n (.seq (.seq R1n (.cond (.tmp 20) (.seq R2n .ret) .skip)) (.seq R3n (.seq R4n (.seq R5n (.seq R6n (.seq (.block 0 (.loop TL)) TZ)))))):=by simp only [R3n,R4n,R5n,R6n,R0n,R1n,R2n,R7n,nvc2,R18n,R19n,R20n,R21n,R22n,R10n,W1n,W2n,W3n,F17n,R8t,R9t,TY,T1t,TL,TZ,X6t,B76,nva,nvb,nvk,nvl,Try.f76,Option.getD_some]
section
variable {V : World} {Z : Cuts} {Post : Value → World → Prop} {n i sb rb ga go gp oc pc : Nat} {c0 c1 c2 c3 c4 c5 : Value} {T : Array Value} {kt : List Item} {b₀ : Frame} {a₀ : Act} {ops₀ : Array Oper} {i₀ : Nat} {rest₀ : List Nat} {k₀ : List Item} {cs0 : List Frame}
theorem t_r0 (hc0 : ∃ a b c,c0 = .slice a b c) (hc1 : ∃ a b c,c1 = .slice a b c) (hc2 : ∃ a b c,c2 = .slice a b c) (hc3 : ∃ a b c,c3 = .slice a b c) (hc4 : ∃ a b c,c4 = .slice a b c) (hc5 : ∃ a b c,c5 = .slice a b c) (hn : norm V = V) (hs : T.size = 150) (t0 : T[0]? = some (.agg #[c0,c1,c2,c3,c4,c5])) (t1 : T[1]? = some (.int .i64 (i : Int)))
   (K : ∀ T' V',HB T' i V.heap.size (V.heap.size + 1) → norm V' = V' → Kp V V' → V'.heap[V.heap.size]? = some (.cells #[c0,c1,c2,c3,c4,c5] 34 (0,0)) → V'.heap[V.heap.size + 1]? = some (.cells #[.slice none 0 0,.slice none 0 0,.slice none 0 0,.slice none 0 0,.slice none 0 0,.slice none 0 0] 34 (0,0)) → To0 Try.prog Post Z V' (G ((base 76).at ⟨T',[]⟩ kt) cs0)) :
   To0 Try.prog Post Z V (G ((base 76).at ⟨T,[]⟩ (.code R0n :: kt)) cs0):=by
 refine To0.walk (will_code (L:=Lone) (R:=fun a' V'=>HB a'.tmps i V.heap.size (V.heap.size + 1) ∧ norm V' = V' ∧ Kp V V' ∧ V'.heap[V.heap.size]? = some (.cells #[c0,c1,c2,c3,c4,c5] 34 (0,0)) ∧ V'.heap[V.heap.size + 1]? = some (.cells #[.slice none 0 0,.slice none 0 0,.slice none 0 0,.slice none 0 0,.slice none 0 0,.slice none 0 0] 34 (0,0))) calm rfl ⟨_,Try.func76⟩ rfl (by kernel_rfl) (fun τ=>?_) fun a' V' ⟨q0,q1,q2,q3,q4⟩ ha'=>Will.stop ?_)
 · clear K
   obtain ⟨p0,q0,r0,rfl⟩:=hc0
   obtain ⟨p1,q1,r1,rfl⟩:=hc1
   obtain ⟨p2,q2,r2,rfl⟩:=hc2
   obtain ⟨p3,q3,r3,rfl⟩:=hc3
   obtain ⟨p4,q4,r4,rfl⟩:=hc4
   obtain ⟨p5,q5,r5,rfl⟩:=hc5
   have hz : (re V τ 0).heap.size = V.heap.size:=rfl
   have hk : ∀ b : Nat,(re V τ 0).heap[b]? = V.heap[b]?:=fun b=>rfl
   obtain ⟨f,hf,hT⟩:=array150f T hs
   have et0:=hf 0 _ t0
   have et1:=hf 1 _ t1
   clear hf hs t0 t1
   subst hT
   simp only [et0,et1]
   clear et0 et1
   simp only [R0n,R1n,R2n,R7n,nvc2,R18n,R19n,R20n,R21n,R22n,R10n,W1n,W2n,W3n,F17n,R8t,R9t,TY,T1t,TL,TZ,X6t,B76,nva,nvb,nvk,nvl,Try.f76,Option.getD_some]
   go_wp2_with fail
   refine ⟨⟨by simp,rfl,rfl,rfl⟩,rfl,Kp.mk ?_ (fun b hb=>?_),?_,?_⟩
   · show _ ≤ ((World.alloc (World.alloc (re V τ 0) _) _).heap).size
     rw [alloc_size,alloc_size,hz]; omega
   · show (World.alloc (World.alloc (re V τ 0) _) _).heap[b]? = _
     rw [alloc_get,if_neg (by rw [alloc_size,hz]; omega),alloc_get,if_neg (by rw [hz]; omega),hk]
   · show (World.alloc (World.alloc (re V τ 0) _) _).heap[V.heap.size]? = _
     rw [alloc_get,if_neg (by rw [alloc_size,hz]; omega),alloc_get,if_pos hz.symm]
   · show (World.alloc (World.alloc (re V τ 0) _) _).heap[V.heap.size + 1]? = _
     rw [alloc_get,if_pos (by rw [alloc_size,hz])]
 · obtain ⟨T',df⟩:=a'
   simp only at ha' q0
   subst ha'
   exact K T' V' q0 q1 q2 q3 q4
theorem t_r1 {x y : Bool} (hn : norm V = V) (hi : i < n) (hsb : V.heap[sb]? = some (.cells #[c0,c1,.slice (some ⟨go,0,none⟩) n oc,.slice (some ⟨gp,0,none⟩) n pc,c4,c5] 34 (0,0))) (ho : V.cell? ⟨go,i,none⟩ = some (.bool x)) (hq : V.cell? ⟨gp,i,none⟩ = some (.bool y)) (hT : HB T i sb rb)
   (K : ∀ T',HB T' i sb rb → T'[20]? = some (.bool (x || y)) → To0 Try.prog Post Z V (G ((base 76).at ⟨T',[]⟩ kt) cs0)) :
   To0 Try.prog Post Z V (G ((base 76).at ⟨T,[]⟩ (.code R1n :: kt)) cs0):=by
 refine To0.walk (will_code (L:=Lone) (R:=fun a' V'=>V' = V ∧ HB a'.tmps i sb rb ∧ a'.tmps[20]? = some (.bool (x || y))) calm rfl ⟨_,Try.func76⟩ rfl (by kernel_rfl) (fun τ=>?_) fun a' V' ⟨q0,q1,q2⟩ ha'=>Will.stop ?_)
 · obtain ⟨hs,t1,t2,t4⟩:=hT
   have q1 : ¬ ((i : Int) < 0):=by omega
   have q2 : ¬ ((n : Int) ≤ (i : Int)):=by omega
   have d1 : (re V τ 0).cell? ⟨sb,2,none⟩ = some (.slice (some ⟨go,0,none⟩) n oc):=cell_of hsb (by simp)
   have d2 : (re V τ 0).cell? ⟨sb,3,none⟩ = some (.slice (some ⟨gp,0,none⟩) n pc):=cell_of hsb (by simp)
   have d3 : (re V τ 0).cell? ⟨go,i,none⟩ = some (.bool x):=ho
   have d4 : (re V τ 0).cell? ⟨gp,i,none⟩ = some (.bool y):=hq
   clear K hsb ho hq
   obtain ⟨f,hf,hT⟩:=array150f T hs
   have et1:=hf 1 _ t1
   have et2:=hf 2 _ t2
   have et4:=hf 4 _ t4
   clear hf hs t1 t2 t4
   subst hT
   simp only [et1,et2,et4]
   clear et1 et2 et4
   simp only [R0n,R1n,R2n,R7n,nvc2,R18n,R19n,R20n,R21n,R22n,R10n,W1n,W2n,W3n,F17n,R8t,R9t,TY,T1t,TL,TZ,X6t,B76,nva,nvb,nvk,nvl,Try.f76,Option.getD_some]
   cases x
   all_goals (go_wp2_with fail; exact ⟨hn,⟨by simp,rfl,rfl,rfl⟩⟩)
 · obtain ⟨T',df⟩:=a'
   simp only at ha' q1 q2
   subst ha' q0
   exact K T' q1 q2
theorem t_r2 (hc0 : ∃ a b c,c0 = .slice a b c) (hc1 : ∃ a b c,c1 = .slice a b c) (hc2 : ∃ a b c,c2 = .slice a b c) (hc3 : ∃ a b c,c3 = .slice a b c) (hc4 : ∃ a b c,c4 = .slice a b c) (hc5 : ∃ a b c,c5 = .slice a b c) (hn : norm V = V) (hne : sb ≠ rb) (hsb : V.heap[sb]? = some (.cells #[c0,c1,c2,c3,c4,c5] 34 (0,0))) (hrb : V.heap[rb]? = some (.cells #[.slice none 0 0,.slice none 0 0,.slice none 0 0,.slice none 0 0,.slice none 0 0,.slice none 0 0] 34 (0,0))) (hT : HB T i sb rb)
   (K : ∀ T',HB T' i sb rb → To0 Try.prog Post Z ((((((V.setCell ⟨rb,0,none⟩ c0).setCell ⟨rb,1,none⟩ c1).setCell ⟨rb,2,none⟩ c2).setCell ⟨rb,3,none⟩ c3).setCell ⟨rb,4,none⟩ c4).setCell ⟨rb,5,none⟩ c5) (G ((base 76).at ⟨T',[]⟩ kt) cs0)) :
   To0 Try.prog Post Z V (G ((base 76).at ⟨T,[]⟩ (.code R2n :: kt)) cs0):=by
 refine To0.walk (will_code (L:=Lone) (R:=fun a' V'=>V' = ((((((V.setCell ⟨rb,0,none⟩ c0).setCell ⟨rb,1,none⟩ c1).setCell ⟨rb,2,none⟩ c2).setCell ⟨rb,3,none⟩ c3).setCell ⟨rb,4,none⟩ c4).setCell ⟨rb,5,none⟩ c5) ∧ HB a'.tmps i sb rb) calm rfl ⟨_,Try.func76⟩ rfl (by kernel_rfl) (fun τ=>?_) fun a' V' ⟨q0,q1⟩ ha'=>Will.stop ?_)
 · obtain ⟨hs,t1,t2,t4⟩:=hT
   obtain ⟨p0,q0,r0,rfl⟩:=hc0
   obtain ⟨p1,q1,r1,rfl⟩:=hc1
   obtain ⟨p2,q2,r2,rfl⟩:=hc2
   obtain ⟨p3,q3,r3,rfl⟩:=hc3
   obtain ⟨p4,q4,r4,rfl⟩:=hc4
   obtain ⟨p5,q5,r5,rfl⟩:=hc5
   have d0 : (re V τ 0).cell? ⟨sb,0,none⟩ = some (.slice p0 q0 r0):=cell_of hsb (by simp)
   have e0 : (re V τ 0).cell? ⟨rb,0,none⟩ = some (.slice none 0 0):=cell_of hrb (by simp)
   have z0 : (re V τ 0).frozen? ⟨rb,0,none⟩ = false:=by simp [World.frozen?,re,hrb]
   have d1 : (re V τ 0).cell? ⟨sb,1,none⟩ = some (.slice p1 q1 r1):=cell_of hsb (by simp)
   have e1 : (re V τ 0).cell? ⟨rb,1,none⟩ = some (.slice none 0 0):=cell_of hrb (by simp)
   have z1 : (re V τ 0).frozen? ⟨rb,1,none⟩ = false:=by simp [World.frozen?,re,hrb]
   have d2 : (re V τ 0).cell? ⟨sb,2,none⟩ = some (.slice p2 q2 r2):=cell_of hsb (by simp)
   have e2 : (re V τ 0).cell? ⟨rb,2,none⟩ = some (.slice none 0 0):=cell_of hrb (by simp)
   have z2 : (re V τ 0).frozen? ⟨rb,2,none⟩ = false:=by simp [World.frozen?,re,hrb]
   have d3 : (re V τ 0).cell? ⟨sb,3,none⟩ = some (.slice p3 q3 r3):=cell_of hsb (by simp)
   have e3 : (re V τ 0).cell? ⟨rb,3,none⟩ = some (.slice none 0 0):=cell_of hrb (by simp)
   have z3 : (re V τ 0).frozen? ⟨rb,3,none⟩ = false:=by simp [World.frozen?,re,hrb]
   have d4 : (re V τ 0).cell? ⟨sb,4,none⟩ = some (.slice p4 q4 r4):=cell_of hsb (by simp)
   have e4 : (re V τ 0).cell? ⟨rb,4,none⟩ = some (.slice none 0 0):=cell_of hrb (by simp)
   have z4 : (re V τ 0).frozen? ⟨rb,4,none⟩ = false:=by simp [World.frozen?,re,hrb]
   have d5 : (re V τ 0).cell? ⟨sb,5,none⟩ = some (.slice p5 q5 r5):=cell_of hsb (by simp)
   have e5 : (re V τ 0).cell? ⟨rb,5,none⟩ = some (.slice none 0 0):=cell_of hrb (by simp)
   have z5 : (re V τ 0).frozen? ⟨rb,5,none⟩ = false:=by simp [World.frozen?,re,hrb]
   clear K hsb hrb
   obtain ⟨f,hf,hT⟩:=array150f T hs
   have et1:=hf 1 _ t1
   have et2:=hf 2 _ t2
   have et4:=hf 4 _ t4
   clear hf hs t1 t2 t4
   subst hT
   simp only [et1,et2,et4]
   clear et1 et2 et4
   simp only [R0n,R1n,R2n,R7n,nvc2,R18n,R19n,R20n,R21n,R22n,R10n,W1n,W2n,W3n,F17n,R8t,R9t,TY,T1t,TL,TZ,X6t,B76,nva,nvb,nvk,nvl,Try.f76,Option.getD_some]
   go_wp2_with fail
   exact ⟨norm_set (norm_set (norm_set (norm_set (norm_set (norm_set hn _ _) _ _) _ _) _ _) _ _) _ _,⟨by simp,rfl,rfl,rfl⟩⟩
 · obtain ⟨T',df⟩:=a'
   simp only at ha' q1
   subst ha' q0
   exact K T' q1
theorem t_out (hc0 : ∃ a b c,c0 = .slice a b c) (hc1 : ∃ a b c,c1 = .slice a b c) (hc2 : ∃ a b c,c2 = .slice a b c) (hc3 : ∃ a b c,c3 = .slice a b c) (hc4 : ∃ a b c,c4 = .slice a b c) (hc5 : ∃ a b c,c5 = .slice a b c) (hn : norm V = V) (hrb : V.heap[rb]? = some (.cells #[c0,c1,c2,c3,c4,c5] 34 (0,0))) (t4 : T[4]? = some (.pointer (some ⟨rb,0,none⟩)))
   (K : To0 Try.prog Post Z V (G (b₀.at (a₀.put ((ops₀[i₀]?).bind (·.dst)) (.agg #[c0,c1,c2,c3,c4,c5])) (.inRegion ops₀ rest₀ :: k₀)) cs0)) :
   To0 Try.prog Post Z V (G ((base 76).at ⟨T,[]⟩ (.code .ret :: kt)) (b₀.at a₀ (.inRegion ops₀ (i₀ :: rest₀) :: k₀) :: cs0)):=by
 refine mu_ret mu_to0 ?_
 have hg : T.getD 4 undef = .pointer (some ⟨rb,0,none⟩):=by simp [Array.getD_eq_getD_getElem?,t4]
 refine To0.walk (will_leave (fn:=Try.f76) rfl rfl Try.func76 (v:=(.agg #[c0,c1,c2,c3,c4,c5])) (fun τ=>?_) (Will.stop ?_))
 · clear K
   obtain ⟨p0,q0,r0,rfl⟩:=hc0
   obtain ⟨p1,q1,r1,rfl⟩:=hc1
   obtain ⟨p2,q2,r2,rfl⟩:=hc2
   obtain ⟨p3,q3,r3,rfl⟩:=hc3
   obtain ⟨p4,q4,r4,rfl⟩:=hc4
   obtain ⟨p5,q5,r5,rfl⟩:=hc5
   have r_0 : (re V τ 0).cell? ⟨rb,0,none⟩ = some (.slice p0 q0 r0):=cell_of hrb (by simp)
   have r_1 : (re V τ 0).cell? ⟨rb,1,none⟩ = some (.slice p1 q1 r1):=cell_of hrb (by simp)
   have r_2 : (re V τ 0).cell? ⟨rb,2,none⟩ = some (.slice p2 q2 r2):=cell_of hrb (by simp)
   have r_3 : (re V τ 0).cell? ⟨rb,3,none⟩ = some (.slice p3 q3 r3):=cell_of hrb (by simp)
   have r_4 : (re V τ 0).cell? ⟨rb,4,none⟩ = some (.slice p4 q4 r4):=cell_of hrb (by simp)
   have r_5 : (re V τ 0).cell? ⟨rb,5,none⟩ = some (.slice p5 q5 r5):=cell_of hrb (by simp)
   simp only [results,Try.f76,List.mapM_toArray,List.mapM_cons,List.mapM_nil,Sem.run_bind,hg]
   go_simp
 · rw [Frame.finish_at]
   exact K
end
end Go.Proofs.Ytibcdikfbhmheaa
