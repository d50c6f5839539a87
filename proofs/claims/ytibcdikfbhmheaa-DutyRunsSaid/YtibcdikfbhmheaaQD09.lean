import Derived.Test.YtibcdikfbhmheaaQD06
import Derived.Test.YtibcdikfbhmheaaQD07
import Derived.Test.YtibcdikfbhmheaaQD08
set_option linter.unusedSimpArgs false
set_option linter.unusedVariables false
namespace Go.Proofs.Ytibcdikfbhmheaa
open Go Go.Conc Go.Proofs
open Go.ConcN (sumTo upd sumTo_upd upd_ne upd_same)
set_option linter.unusedVariables false
def rep (n : Nat) (acts : Nat → List (Int × Int)) : Nat → TS × List Nat → TS × List Nat
 | 0,x=>x
 | m + 1,x=>rep n acts m (trnd n acts x)
theorem tstp_lenT (n : Nat) (acts : Nat → List (Int × Int)) (x : TS × List Nat) (i : Nat) : x.2.length ≤ (tstp n acts x i).2.length ∧ (tstp n acts x i).2.length ≤ x.2.length + 1 ∧ ((tstp n acts x i).2.length = x.2.length → tstp n acts x i = x):=by
 unfold tstp
 split
 · refine ⟨by simp,by simp,fun h=>?_⟩
   simp at h
 · exact ⟨Nat.le_refl _,Nat.le_succ _,fun _=>rfl⟩
theorem fold_lenT (n : Nat) (acts : Nat → List (Int × Int)) : ∀ (l : List Nat) (x : TS × List Nat),x.2.length ≤ (l.foldl (tstp n acts) x).2.length ∧ (l.foldl (tstp n acts) x).2.length ≤ x.2.length + l.length ∧ ((l.foldl (tstp n acts) x).2.length = x.2.length → l.foldl (tstp n acts) x = x):=by
 intro l
 induction l with
 | nil=>intro x; exact ⟨Nat.le_refl _,Nat.le_refl _,fun _=>rfl⟩
 | cons i l ih =>
   intro x
   rw [List.foldl_cons,List.length_cons]
   obtain ⟨a1,a2,a3⟩:=ih (tstp n acts x i)
   obtain ⟨b1,b2,b3⟩:=tstp_lenT n acts x i
   refine ⟨by omega,by omega,fun h=>?_⟩
   rw [a3 (by omega),b3 (by omega)]
theorem rnd_lenT (n : Nat) (acts : Nat → List (Int × Int)) (x : TS × List Nat) : (trnd n acts x).2.length ≤ x.2.length + n ∧ ((trnd n acts x).2.length = x.2.length → trnd n acts x = x):=by
 obtain ⟨_,a2,a3⟩:=fold_lenT n acts (List.range n) x
 rw [List.length_range] at a2
 exact ⟨a2,a3⟩
theorem rep_stayT {n : Nat} {acts : Nat → List (Int × Int)} {x : TS × List Nat} (h : trnd n acts x = x) : ∀ m,rep n acts m x = x:=by
 intro m
 induction m with
 | zero=>rfl
 | succ m ih=>show rep n acts m (trnd n acts x) = x; rw [h]; exact ih
theorem rep_eqT (n : Nat) (acts : Nat → List (Int × Int)) : ∀ m x,trnds n acts m x = rep n acts m x:=by
 intro m
 induction m with
 | zero=>intro x; rfl
 | succ m ih =>
   intro x
   show (if (trnd n acts x).2.length = x.2.length then trnd n acts x else trnds n acts m (trnd n acts x)) = rep n acts m (trnd n acts x)
   split
   · rename_i h
     have h1:=(rnd_lenT n acts x).2 h
     rw [h1,rep_stayT h1]
   · exact ih _
theorem pk_lenT (n : Nat) (acts : Nat → List (Int × Int)) (x : TS × List Nat) (p : Int) : (tpk n acts x p).2.length ≤ x.2.length + 1:=by
 unfold tpk
 split
 · exact Nat.le_succ _
 · exact (tstp_lenT n acts x _).2.1
theorem pks_nilT {acts : Nat → List (Int × Int)} : ∀ (ps : List Int) (x : TS × List Nat),ps.foldl (tpk 0 acts) x = x:=by
 intro ps
 induction ps with
 | nil=>intro x; rfl
 | cons p ps ih=>intro x; rw [List.foldl_cons]; exact ih x
section
variable {Ve V : World} {Z : Cuts} {Post : Value → World → Prop} {n lc pl pc Rn sb rb : Nat} {la pa : Option Addr} {acts : Nat → List (Int × Int)} {ra : Nat → Option Addr} {rc : Nat → Nat} {T : Array Value} {kt : List Item} {b₀ : Frame} {a₀ : Act} {ops₀ : Array Oper} {i₀ : Nat} {rest₀ : List Nat} {k₀ : List Item} {cs0 : List Frame} {ps : List Int}
theorem QS.nrm {x : TS × List Nat} (S : QS Ve n la lc acts sb rb x V) : norm V = V:=by
 obtain ⟨⟨c,h,_⟩,_⟩:=S
 exact h.nrm
theorem QS.kp {x : TS × List Nat} (S : QS Ve n la lc acts sb rb x V) : Kp Ve V:=by
 obtain ⟨⟨c,h,_⟩,_⟩:=S
 exact h.kp
theorem cond_at {T : Array Value} {j : Nat} {b : Bool} (h : T[j]? = some (.bool b)) : (⟨T,[]⟩ : Act).eval (.tmp j) = .bool b:=by
 show T.getD j undef = _
 simp [Array.getD_eq_getD_getElem?,h]
theorem sl_loop (hR : Rw Ve la n acts ra rc) (hn6 : n < 1000000) (hsm : sumTo n (fun j=>(acts j).length) < 900000000) {k : Nat} : ∀ (m j : Nat) (x : TS × List Nat) (V : World) (T : Array Value),m + j = n → x.2.length + m < 800000000 → QS Ve n la lc acts sb rb x V → HQ T pa pl pc Rn rb sb n → T[11]? = some (.int .i64 (k : Int)) → T[12]? = some (.int .i64 (j : Int)) →
   (∀ V' T',QS Ve n la lc acts sb rb ((List.range' j m).foldl (tstp n acts) x) V' → HQ T' pa pl pc Rn rb sb n → T'[11]? = some (.int .i64 (k : Int)) → To0 Try.prog Post Z V' (G ((base 20).at ⟨T',[]⟩ kt) cs0)) →
   To0 Try.prog Post Z V (G ((base 20).at ⟨T,[]⟩ (.code SLq :: .inLoop SLq :: .inBlock 4 :: kt)) cs0):=by
 intro m
 induction m with
 | zero =>
   intro j x V T hmj hx S hT h11 h12 K
   refine (fun (h : ∀ Y,Y = SLq → To0 Try.prog Post Z V (G ((base 20).at ⟨T,[]⟩ (.code Y :: .inLoop SLq :: .inBlock 4 :: kt)) cs0))=>h _ rfl) ?_
   intro Y hY
   rw [SLq_eq] at hY
   subst hY
   refine mu_seq mu_to0 (mu_seq mu_to0 ?_)
   refine q_r14 (x:=false) S.nrm (decide_eq_false (by omega)) hT h11 h12 fun T1 hT1 g11 g12 g48=>?_
   refine mu_cond mu_to0 false (cond_at g48) ?_
   refine mu_exit mu_to0 rfl ?_
   exact K V T1 S hT1 g11
 | succ m ih =>
   intro j x V T hmj hx S hT h11 h12 K
   refine (fun (h : ∀ Y,Y = SLq → To0 Try.prog Post Z V (G ((base 20).at ⟨T,[]⟩ (.code Y :: .inLoop SLq :: .inBlock 4 :: kt)) cs0))=>h _ rfl) ?_
   intro Y hY
   rw [SLq_eq] at hY
   subst hY
   refine mu_seq mu_to0 (mu_seq mu_to0 ?_)
   refine q_r14 (x:=true) S.nrm (decide_eq_true (by omega)) hT h11 h12 fun T1 hT1 g11 g12 g48=>?_
   refine mu_cond mu_to0 true (cond_at g48) ?_
   refine mu_skip mu_to0 (mu_seq mu_to0 (mu_block mu_to0 ?_))
   refine q_r16 S hR (by omega) hn6 hsm (by omega) hT1 g11 g12 fun T2 V2 S2 hT2 f11 f12=>?_
   refine mu_inBlock mu_to0 ?_
   refine q_r15 S2.nrm (by omega) hT2 f11 f12 fun T3 hT3 e11 e12=>?_
   refine mu_inLoop mu_to0 ?_
   have hl:=(tstp_lenT n acts x j).2.1
   exact ih (j + 1) (tstp n acts x j) V2 T3 (by omega) (by omega) S2 hT3 e11 e12 K
theorem ql_loop (hR : Rw Ve la n acts ra rc) (hn6 : n < 1000000) (hsm : sumTo n (fun j=>(acts j).length) < 900000000) (hRn : Rn < 1000000) : ∀ (m k : Nat) (x : TS × List Nat) (V : World) (T : Array Value),m + k = Rn → x.2.length + m * n < 800000000 → QS Ve n la lc acts sb rb x V → HQ T pa pl pc Rn rb sb n → T[11]? = some (.int .i64 (k : Int)) →
   (∀ V' T',QS Ve n la lc acts sb rb (rep n acts m x) V' → HQ T' pa pl pc Rn rb sb n → To0 Try.prog Post Z V' (G ((base 20).at ⟨T',[]⟩ kt) cs0)) →
   To0 Try.prog Post Z V (G ((base 20).at ⟨T,[]⟩ (.code QLq :: .inLoop QLq :: .inBlock 2 :: kt)) cs0):=by
 intro m
 induction m with
 | zero =>
   intro k x V T hmk hx S hT h11 K
   refine (fun (h : ∀ Y,Y = QLq → To0 Try.prog Post Z V (G ((base 20).at ⟨T,[]⟩ (.code Y :: .inLoop QLq :: .inBlock 2 :: kt)) cs0))=>h _ rfl) ?_
   intro Y hY
   rw [QLq_eq] at hY
   subst hY
   refine mu_seq mu_to0 (mu_seq mu_to0 ?_)
   refine q_r11 (x:=false) S.nrm (decide_eq_false (by omega)) hT h11 fun T1 hT1 g11 g43=>?_
   refine mu_cond mu_to0 false (cond_at g43) ?_
   refine mu_exit mu_to0 rfl ?_
   exact K V T1 S hT1
 | succ m ih =>
   intro k x V T hmk hx S hT h11 K
   refine (fun (h : ∀ Y,Y = QLq → To0 Try.prog Post Z V (G ((base 20).at ⟨T,[]⟩ (.code Y :: .inLoop QLq :: .inBlock 2 :: kt)) cs0))=>h _ rfl) ?_
   intro Y hY
   rw [QLq_eq] at hY
   subst hY
   refine mu_seq mu_to0 (mu_seq mu_to0 ?_)
   refine q_r11 (x:=true) S.nrm (decide_eq_true (by omega)) hT h11 fun T1 hT1 g11 g43=>?_
   refine mu_cond mu_to0 true (cond_at g43) ?_
   refine mu_skip mu_to0 (mu_seq mu_to0 (mu_block mu_to0 (mu_seq mu_to0 ?_)))
   refine q_r13 S.nrm hT1 g11 fun T2 hT2 f11 f12=>?_
   refine mu_block mu_to0 (mu_loop mu_to0 ?_)
   rw [Nat.succ_mul] at hx
   refine sl_loop hR hn6 hsm n 0 x V T2 (by omega) (by have:=Nat.zero_le (m * n); omega) S hT2 f11 f12 fun V2 T3 S2 hT3 e11=>?_
   refine mu_inBlock mu_to0 ?_
   refine q_r12 S2.nrm (by omega) hT3 e11 fun T4 hT4 d11=>?_
   refine mu_inLoop mu_to0 ?_
   have e : (List.range' 0 n).foldl (tstp n acts) x = trnd n acts x:=by rw [← List.range_eq_range']; rfl
   rw [e] at S2
   have hl:=(rnd_lenT n acts x).1
   exact ih (k + 1) (trnd n acts x) V2 T4 (by omega) (by omega) S2 hT4 d11 K
theorem pl_loop (hR : Rw Ve la n acts ra rc) (hn6 : n < 1000000) (hsm : sumTo n (fun j=>(acts j).length) < 900000000) (hp : Pks Ve (fun _=>False) (.slice pa pl pc) ps) (hpl : ps.length = pl) (hpb : pl < 1000000) : ∀ (m k : Nat) (x : TS × List Nat) (V : World) (T : Array Value),m + k = pl → x.2.length + m < 800000000 → QS Ve n la lc acts sb rb x V → HQ T pa pl pc Rn rb sb n → T[9]? = some (.int .i64 (k : Int)) →
   (∀ V' T',QS Ve n la lc acts sb rb ((ps.drop k).foldl (tpk n acts) x) V' → HQ T' pa pl pc Rn rb sb n → To0 Try.prog Post Z V' (G ((base 20).at ⟨T',[]⟩ kt) cs0)) →
   To0 Try.prog Post Z V (G ((base 20).at ⟨T,[]⟩ (.code PLq :: .inLoop PLq :: .inBlock 0 :: kt)) cs0):=by
 intro m
 induction m with
 | zero =>
   intro k x V T hmk hx S hT h9 K
   refine (fun (h : ∀ Y,Y = PLq → To0 Try.prog Post Z V (G ((base 20).at ⟨T,[]⟩ (.code Y :: .inLoop PLq :: .inBlock 0 :: kt)) cs0))=>h _ rfl) ?_
   intro Y hY
   rw [PLq_eq] at hY
   subst hY
   refine mu_seq mu_to0 (mu_seq mu_to0 ?_)
   refine q_r4 (x:=false) S.nrm (decide_eq_false (by omega)) rfl hT h9 fun T1 hT1 g9 g24=>?_
   refine mu_cond mu_to0 false (cond_at g24) ?_
   refine mu_exit mu_to0 rfl ?_
   refine K V T1 ?_ hT1
   rw [List.drop_of_length_le (by omega)]
   exact S
 | succ m ih =>
   intro k x V T hmk hx S hT h9 K
   refine (fun (h : ∀ Y,Y = PLq → To0 Try.prog Post Z V (G ((base 20).at ⟨T,[]⟩ (.code Y :: .inLoop PLq :: .inBlock 0 :: kt)) cs0))=>h _ rfl) ?_
   intro Y hY
   rw [PLq_eq] at hY
   subst hY
   refine mu_seq mu_to0 (mu_seq mu_to0 ?_)
   by_cases h0 : 0 < n
   · refine q_r4 (x:=true) (y:=true) S.nrm (decide_eq_true (by omega)) (decide_eq_true (by omega)) hT h9 fun T1 hT1 g9 g24=>?_
     refine mu_cond mu_to0 true (cond_at g24) ?_
     refine mu_skip mu_to0 (mu_seq mu_to0 (mu_block mu_to0 (mu_seq mu_to0 ?_)))
     have hk : k < ps.length:=by omega
     obtain ⟨⟨b,c,e,h1⟩,hr⟩:=hp
     injection e with e1 e2 e3
     obtain ⟨g,o,e4,hg,_,hc⟩:=h1 (by omega)
     refine q_r6 (p:=ps[k]'hk) (g:=g) (o:=o) S.nrm (e1.trans e4) (by omega) (kp_cell S.kp (hc k hk) hg) h0 hn6 hT1 g9 fun T2 hT2 f9 f10=>?_
     refine mu_seq mu_to0 ?_
     refine q_r7 S.nrm h0 hn6 hT2 f9 f10 fun T3 hT3 d9 d10=>?_
     refine q_r9 S hR (pidx_ltL h0 _) hn6 hsm (by omega) hT3 d9 d10 fun T4 V2 S2 hT4 i9=>?_
     refine mu_inBlock mu_to0 ?_
     refine q_r5 S2.nrm (by omega) hT4 i9 fun T5 hT5 j9=>?_
     refine mu_inLoop mu_to0 ?_
     have hl:=(tstp_lenT n acts x (pidx n (ps[k]'hk))).2.1
     refine ih (k + 1) (tstp n acts x (pidx n (ps[k]'hk))) V2 T5 (by omega) (by omega) S2 hT5 j9 fun V' T' S' hT'=>K V' T' ?_ hT'
     rw [List.drop_eq_getElem_cons hk,List.foldl_cons]
     have e : tpk n acts x (ps[k]'hk) = tstp n acts x (pidx n (ps[k]'hk)):=if_neg (by omega)
     rw [e]
     exact S'
   · obtain rfl : n = 0:=by omega
     refine q_r4 (x:=true) (y:=false) S.nrm (decide_eq_true (by omega)) rfl hT h9 fun T1 hT1 g9 g24=>?_
     refine mu_cond mu_to0 false (cond_at g24) ?_
     refine mu_exit mu_to0 rfl ?_
     refine K V T1 ?_ hT1
     rw [pks_nilT]
     exact S
theorem run20_go (hR : Rw V la n acts ra rc) (hn3 : n ≤ 1000) (hsm : sumTo n (fun j=>(acts j).length) < 900000000) (hp : Pks V (fun _=>False) (.slice pa pl pc) ps) (hpl : ps.length = pl) (hpb : pl < 1000000) (hRn : Rn < 10000)
   (K : ∀ V' v',RS V n la lc acts (trun n acts Rn ps) v' V' → To0 Try.prog Post Z V' (G (b₀.at (a₀.put ((ops₀[i₀]?).bind (·.dst)) v') (.inRegion ops₀ rest₀ :: k₀)) cs0)) :
   To0 Try.prog Post Z V (G (Frame.enter Try.prog 20 #[.slice la n lc,.slice pa pl pc,.int .i64 (Rn : Int)] .normal) (b₀.at a₀ (.inRegion ops₀ (i₀ :: rest₀) :: k₀) :: cs0)):=by
 rw [enter_at (P:=Try.prog) _ Try.func20 rfl]
 refine (fun (h : ∀ T,HQ0 T la n lc pa pl pc Rn → To0 Try.prog Post Z V (G ((base 20).at ⟨T,[]⟩ [.code B20]) (b₀.at a₀ (.inRegion ops₀ (i₀ :: rest₀) :: k₀) :: cs0)))=>h _ ⟨by simp [Try.f20],by simp,by simp,by simp⟩) ?_
 intro T hT
 rw [B20_eq]
 refine mu_seq mu_to0 ?_
 refine q_r0 hT fun T1 V1 hT1 h6 hn1 hk1 hrb1=>?_
 refine mu_seq mu_to0 ?_
 refine q_r1 (acts:=acts) hn3 hk1 hrb1 (Nat.le_refl _) hT1 h6 fun T2 V2 sb hT2 h62 h72 S2=>?_
 refine mu_seq mu_to0 ?_
 refine q_r2 S2.nrm hT2 h62 h72 fun T3 hT3=>?_
 refine mu_seq mu_to0 (mu_seq mu_to0 ?_)
 refine q_r3 S2.nrm hT3 fun T4 hT4 h9=>?_
 refine mu_block mu_to0 (mu_loop mu_to0 ?_)
 refine pl_loop hR (by omega) hsm hp hpl hpb pl 0 (tzero,[]) V2 T4 (by omega) (by show 0 + pl < _; omega) S2 hT4 h9 fun V3 T5 S3 hT5=>?_
 rw [List.drop_zero] at S3
 have hlen : ∀ (l : List Int) (x : TS × List Nat),(l.foldl (tpk n acts) x).2.length ≤ x.2.length + l.length:=by
   intro l
   induction l with
   | nil=>intro x; exact Nat.le_refl _
   | cons p l ih =>
     intro x
     rw [List.foldl_cons,List.length_cons]
     have h1:=ih (tpk n acts x p)
     have h2:=pk_lenT n acts x p
     omega
 have hl3 : (ps.foldl (tpk n acts) (tzero,[])).2.length ≤ 0 + ps.length:=hlen ps (tzero,[])
 refine mu_seq mu_to0 (mu_seq mu_to0 ?_)
 refine q_r10 S3.nrm hT5 fun T6 hT6 h11=>?_
 refine mu_block mu_to0 (mu_loop mu_to0 ?_)
 have hmul : Rn * n ≤ 10000 * 1000:=Nat.mul_le_mul (by omega) hn3
 refine ql_loop hR (by omega) hsm (by omega) Rn 0 _ V3 T6 (by omega) (by omega) S3 hT6 h11 fun V4 T7 S4 hT7=>?_
 rw [← rep_eqT] at S4
 obtain ⟨⟨c,rs,hsb⟩,hrb,l1,l2,l3⟩:=S4
 obtain ⟨a1,b1,c1,a2,b2,c2,a3,b3,c3,a4,b4,c4,a5,b5,c5,ec⟩:=rs.six
 obtain rfl : c = #[.slice la n lc,.slice a1 b1 c1,.slice a2 b2 c2,.slice a3 b3 c3,.slice a4 b4 c4,.slice a5 b5 c5]:=by injection ec
 refine mu_seq mu_to0 ?_
 refine q_r17 ⟨_,_,_,rfl⟩ ⟨_,_,_,rfl⟩ ⟨_,_,_,rfl⟩ ⟨_,_,_,rfl⟩ ⟨_,_,_,rfl⟩ ⟨_,_,_,rfl⟩ rs.nrm l3 hsb hrb hT7 fun T8 hT8=>?_
 have e2:=six_cells (v0:=.slice la n lc) (v1:=.slice a1 b1 c1) (v2:=.slice a2 b2 c2) (v3:=.slice a3 b3 c3) (v4:=.slice a4 b4 c4) (v5:=.slice a5 b5 c5) hrb
 have hnn : norm ((((((V4.setCell ⟨V.heap.size,0,none⟩ (.slice la n lc)).setCell ⟨V.heap.size,1,none⟩ (.slice a1 b1 c1)).setCell ⟨V.heap.size,2,none⟩ (.slice a2 b2 c2)).setCell ⟨V.heap.size,3,none⟩ (.slice a3 b3 c3)).setCell ⟨V.heap.size,4,none⟩ (.slice a4 b4 c4)).setCell ⟨V.heap.size,5,none⟩ (.slice a5 b5 c5)) = _:=norm_set (norm_set (norm_set (norm_set (norm_set (norm_set rs.nrm _ _) _ _) _ _) _ _) _ _) _ _
 refine q_out ⟨_,_,_,rfl⟩ ⟨_,_,_,rfl⟩ ⟨_,_,_,rfl⟩ ⟨_,_,_,rfl⟩ ⟨_,_,_,rfl⟩ ⟨_,_,_,rfl⟩ hnn e2 hT8.2.2.2.1 (K _ _ (rs.put hrb l2 (fun b hb=>six_off hb) six_size hnn))
end
end Go.Proofs.Ytibcdikfbhmheaa
