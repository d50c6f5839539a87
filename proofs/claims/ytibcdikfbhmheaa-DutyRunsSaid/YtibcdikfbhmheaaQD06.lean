import Derived.Test.YtibcdikfbhmheaaQD05
set_option linter.unusedSimpArgs false
set_option linter.unusedVariables false
set_option maxRecDepth 100000
set_option maxHeartbeats 4000000
namespace Go.Proofs.Ytibcdikfbhmheaa
open Go Go.Conc Go.Proofs
open Go.ConcN (sumTo upd sumTo_upd upd_ne upd_same)
set_option linter.unusedVariables false
section
variable {V0 V : World} {Z : Cuts} {Post : Value → World → Prop} {n lc i j k sb rb pl pc Rn : Nat} {la pa : Option Addr} {acts : Nat → List (Int × Int)} {ra : Nat → Option Addr} {rc : Nat → Nat} {x : TS × List Nat} {T : Array Value} {kt : List Item} {cs0 : List Frame}
theorem q_r9 (S : QS V0 n la lc acts sb rb x V) (hR : Rw V0 la n acts ra rc) (hi : i < n) (hn6 : n < 1000000) (hsm : sumTo n (fun j=>(acts j).length) < 900000000) (hx : x.2.length < 800000000) (hT : HQ T pa pl pc Rn rb sb n) (h9 : T[9]? = some (.int .i64 (k : Int))) (h10 : T[10]? = some (.int .i64 (i : Int)))
   (K : ∀ T' V',QS V0 n la lc acts sb rb (tstp n acts x i) V' → HQ T' pa pl pc Rn rb sb n → T'[9]? = some (.int .i64 (k : Int)) → To0 Try.prog Post Z V' (G ((base 20).at ⟨T',[]⟩ kt) cs0)) :
   To0 Try.prog Post Z V (G ((base 20).at ⟨T,[]⟩ (.code Q9n :: kt)) cs0):=by
 obtain ⟨⟨c,rs,hsb⟩,hrb,l1,l2,l3⟩:=S
 obtain ⟨p1,q1,r1,p2,q2,r2,p3,q3,r3,p4,q4,r4,p5,q5,r5,ec⟩:=rs.six
 obtain rfl : c = #[.slice la n lc,.slice p1 q1 r1,.slice p2 q2 r2,.slice p3 q3 r3,.slice p4 q4 r4,.slice p5 q5 r5]:=by injection ec
 have hn:=rs.nrm
 have d0 : ∀ τ,(re V τ 0).cell? ⟨sb,0,none⟩ = some (.slice la n lc):=fun τ=>cell_of hsb (by simp)
 have d1 : ∀ τ,(re V τ 0).cell? ⟨sb,1,none⟩ = some (.slice p1 q1 r1):=fun τ=>cell_of hsb (by simp)
 have d2 : ∀ τ,(re V τ 0).cell? ⟨sb,2,none⟩ = some (.slice p2 q2 r2):=fun τ=>cell_of hsb (by simp)
 have d3 : ∀ τ,(re V τ 0).cell? ⟨sb,3,none⟩ = some (.slice p3 q3 r3):=fun τ=>cell_of hsb (by simp)
 have d4 : ∀ τ,(re V τ 0).cell? ⟨sb,4,none⟩ = some (.slice p4 q4 r4):=fun τ=>cell_of hsb (by simp)
 have d5 : ∀ τ,(re V τ 0).cell? ⟨sb,5,none⟩ = some (.slice p5 q5 r5):=fun τ=>cell_of hsb (by simp)
 obtain ⟨hs,t1,t2,t6,t7,t8⟩:=hT
 clear ec
 obtain ⟨f,hf,hT⟩:=array55f T hs
 have et1:=hf 1 _ t1
 have et2:=hf 2 _ t2
 have et6:=hf 6 _ t6
 have et7:=hf 7 _ t7
 have et8:=hf 8 _ t8
 have eh9:=hf 9 _ h9
 have eh10:=hf 10 _ h10
 clear hf hs t1 t2 t6 t7 t8 h9 h10
 subst hT
 simp only [et1,et2,et6,et7,et8,eh9,eh10]
 clear et1 et2 et6 et7 et8 eh9 eh10
 refine (fun (h : ∀ X0,X0 = Q9n → To0 Try.prog Post Z V (G ((base 20).at ⟨_,[]⟩ (.code X0 :: kt)) cs0))=>h Q9n rfl) ?_
 intro X0 hX0
 simp only [Q0n,Q1n,Q2n,Q3n,Q4n,Q5n,Q6n,Q7n,Q9n,Q10n,Q11n,Q12n,Q13n,Q14n,Q15n,Q16n,Q17n,PLq,QLq,SLq,X2q,X3q,B20,nva,nvb,nvk,nvl,Try.f20,Option.getD_some] at hX0
 subst hX0
 obtain ⟨K,hK,hV,key,yek⟩:=kKV (L:=Lone) (J:=fun g=>To0 Try.prog Post Z V g) mu_to0 (muv_to0 hn)
 refine key _ ?_
 repeat (first|(with_reducible first|(refine mu_region_end hK ?_;try subst hkk)|refine mu_block hK ?_|refine mu_inBlock hK ?_|refine mu_ret hK ?_|refine mu_end hK ?_)|refine mu_exit hK rfl ?_|(with_reducible refine mu_regionH hK (fun kk hkk=>?_); simp only [List.size_toArray,List.length_cons,List.length_nil,Nat.reduceAdd,Nat.zero_add,List.range,List.range.loop])|(with_reducible refine mu_cf hK ?_ ?_;(· first | (walk_nrm; done) | (simp [Act.eval]; done)))|(with_reducible refine mu_ct hK ?_ ?_;(· first | (walk_nrm; done) | (simp [Act.eval]; done)))|(refine mu_unwanted hK rfl rfl ?_; walk_nrm)|(refine muv_val hV rfl (by first | exact .inl rfl | exact .inr rfl) rfl (by kernel_rfl) (fun J hJ=>?_); go_simp; with_reducible refine hJ _ ?_; clear hJ J; walk_nrm))
 refine mu_call hK rfl rfl (by decide) rfl Try.func76 (by kernel_rfl) rfl ?_
 rw [← enter_at (P:=Try.prog) _ Try.func76 rfl]
 walk_nrm
 refine yek _ ?_
 clear hK hV key yek K
 clear d0 d1 d2 d3 d4 d5
 refine turn76_go (V0:=V) rs.self (hR.kp rs.kp) hi hn6 hsm hx fun V' v' RS'=>?_
 walk_nrm
 obtain ⟨u1,v1,w1,u2,v2,w2,u3,v3,w3,u4,v4,w4,u5,v5,w5,rfl⟩:=RS'.six
 have hsb' : V'.heap[sb]? = some (.cells #[.slice la n lc,.slice p1 q1 r1,.slice p2 q2 r2,.slice p3 q3 r3,.slice p4 q4 r4,.slice p5 q5 r5] 34 (0,0)):=(RS'.kp.keep _ (Array.getElem?_eq_some_iff.1 hsb).1).trans hsb
 have hrb':=(RS'.kp.keep _ (Array.getElem?_eq_some_iff.1 hrb).1).trans hrb
 have hn':=RS'.nrm
 have d0 : ∀ τ,(re V' τ 0).cell? ⟨sb,0,none⟩ = some (.slice la n lc):=fun τ=>cell_of hsb' (by simp)
 have z0 : ∀ τ,(re V' τ 0).frozen? ⟨sb,0,none⟩ = false:=fun τ=>by simp [World.frozen?,re,hsb']
 have d1 : ∀ τ,(re V' τ 0).cell? ⟨sb,1,none⟩ = some (.slice p1 q1 r1):=fun τ=>cell_of hsb' (by simp)
 have z1 : ∀ τ,(re V' τ 0).frozen? ⟨sb,1,none⟩ = false:=fun τ=>by simp [World.frozen?,re,hsb']
 have d2 : ∀ τ,(re V' τ 0).cell? ⟨sb,2,none⟩ = some (.slice p2 q2 r2):=fun τ=>cell_of hsb' (by simp)
 have z2 : ∀ τ,(re V' τ 0).frozen? ⟨sb,2,none⟩ = false:=fun τ=>by simp [World.frozen?,re,hsb']
 have d3 : ∀ τ,(re V' τ 0).cell? ⟨sb,3,none⟩ = some (.slice p3 q3 r3):=fun τ=>cell_of hsb' (by simp)
 have z3 : ∀ τ,(re V' τ 0).frozen? ⟨sb,3,none⟩ = false:=fun τ=>by simp [World.frozen?,re,hsb']
 have d4 : ∀ τ,(re V' τ 0).cell? ⟨sb,4,none⟩ = some (.slice p4 q4 r4):=fun τ=>cell_of hsb' (by simp)
 have z4 : ∀ τ,(re V' τ 0).frozen? ⟨sb,4,none⟩ = false:=fun τ=>by simp [World.frozen?,re,hsb']
 have d5 : ∀ τ,(re V' τ 0).cell? ⟨sb,5,none⟩ = some (.slice p5 q5 r5):=fun τ=>cell_of hsb' (by simp)
 have z5 : ∀ τ,(re V' τ 0).frozen? ⟨sb,5,none⟩ = false:=fun τ=>by simp [World.frozen?,re,hsb']
 have hn2 : norm ((((((V'.setCell ⟨sb,0,none⟩ (.slice la n lc)).setCell ⟨sb,1,none⟩ (.slice u1 v1 w1)).setCell ⟨sb,2,none⟩ (.slice u2 v2 w2)).setCell ⟨sb,3,none⟩ (.slice u3 v3 w3)).setCell ⟨sb,4,none⟩ (.slice u4 v4 w4)).setCell ⟨sb,5,none⟩ (.slice u5 v5 w5)) = ((((((V'.setCell ⟨sb,0,none⟩ (.slice la n lc)).setCell ⟨sb,1,none⟩ (.slice u1 v1 w1)).setCell ⟨sb,2,none⟩ (.slice u2 v2 w2)).setCell ⟨sb,3,none⟩ (.slice u3 v3 w3)).setCell ⟨sb,4,none⟩ (.slice u4 v4 w4)).setCell ⟨sb,5,none⟩ (.slice u5 v5 w5)):=norm_set (norm_set (norm_set (norm_set (norm_set (norm_set hn' _ _) _ _) _ _) _ _) _ _) _ _
 refine mus_put (L:=Lone) (mus_to0 hn2) (K:=fun g=>To0 Try.prog Post Z V' g) (K':=fun g=>To0 Try.prog Post Z ((((((V'.setCell ⟨sb,0,none⟩ (.slice la n lc)).setCell ⟨sb,1,none⟩ (.slice u1 v1 w1)).setCell ⟨sb,2,none⟩ (.slice u2 v2 w2)).setCell ⟨sb,3,none⟩ (.slice u3 v3 w3)).setCell ⟨sb,4,none⟩ (.slice u4 v4 w4)).setCell ⟨sb,5,none⟩ (.slice u5 v5 w5)) g) rfl (.inl rfl) rfl (by kernel_rfl) (fun τ=>?_) ?_
 · go_simp
   try rfl
 clear d0 z0 d1 z1 d2 z2 d3 z3 d4 z4 d5 z5
 have e2:=six_cells (v0:=(.slice la n lc)) (v1:=(.slice u1 v1 w1)) (v2:=(.slice u2 v2 w2)) (v3:=(.slice u3 v3 w3)) (v4:=(.slice u4 v4 w4)) (v5:=(.slice u5 v5 w5)) hsb'
 have o2 : ∀ b,b ≠ sb → ((((((V'.setCell ⟨sb,0,none⟩ (.slice la n lc)).setCell ⟨sb,1,none⟩ (.slice u1 v1 w1)).setCell ⟨sb,2,none⟩ (.slice u2 v2 w2)).setCell ⟨sb,3,none⟩ (.slice u3 v3 w3)).setCell ⟨sb,4,none⟩ (.slice u4 v4 w4)).setCell ⟨sb,5,none⟩ (.slice u5 v5 w5)).heap[b]? = V'.heap[b]?:=fun b hb=>six_off hb
 have z2 : ((((((V'.setCell ⟨sb,0,none⟩ (.slice la n lc)).setCell ⟨sb,1,none⟩ (.slice u1 v1 w1)).setCell ⟨sb,2,none⟩ (.slice u2 v2 w2)).setCell ⟨sb,3,none⟩ (.slice u3 v3 w3)).setCell ⟨sb,4,none⟩ (.slice u4 v4 w4)).setCell ⟨sb,5,none⟩ (.slice u5 v5 w5)).heap.size = V'.heap.size:=six_size
 have Q : QS V0 n la lc acts sb rb (tstp n acts x i) ((((((V'.setCell ⟨sb,0,none⟩ (.slice la n lc)).setCell ⟨sb,1,none⟩ (.slice u1 v1 w1)).setCell ⟨sb,2,none⟩ (.slice u2 v2 w2)).setCell ⟨sb,3,none⟩ (.slice u3 v3 w3)).setCell ⟨sb,4,none⟩ (.slice u4 v4 w4)).setCell ⟨sb,5,none⟩ (.slice u5 v5 w5)):=⟨⟨_,(RS'.back rs.kp).put hsb' l1 o2 z2 hn2,e2⟩,(o2 _ (fun e=>l3 e.symm)).trans hrb',l1,l2,l3⟩
 generalize ((((((V'.setCell ⟨sb,0,none⟩ (.slice la n lc)).setCell ⟨sb,1,none⟩ (.slice u1 v1 w1)).setCell ⟨sb,2,none⟩ (.slice u2 v2 w2)).setCell ⟨sb,3,none⟩ (.slice u3 v3 w3)).setCell ⟨sb,4,none⟩ (.slice u4 v4 w4)).setCell ⟨sb,5,none⟩ (.slice u5 v5 w5)) = V2 at *
 walk_nrm
 refine mu_region_end mu_to0 ?_
 subst hkk
 refine K _ V2 Q ?_ ?_
 · refine ⟨?_,?_,?_,?_,?_,?_⟩
   all_goals rfl
 all_goals rfl
end
end Go.Proofs.Ytibcdikfbhmheaa
