import Derived.Test.YtibcdikfbhmheaaQD04
set_option linter.unusedSimpArgs false
set_option linter.unusedVariables false
set_option maxRecDepth 100000
set_option maxHeartbeats 4000000
namespace Go.Proofs.Ytibcdikfbhmheaa
open Go Go.Conc Go.Proofs
open Go.ConcN (sumTo upd sumTo_upd upd_ne upd_same)
set_option linter.unusedVariables false
theorem array55f (T : Array Value) (h : T.size = 55) : ∃ f : Nat → Value,(∀ i v,T[i]? = some v → f i = v) ∧ T = #[f 0,f 1,f 2,f 3,f 4,f 5,f 6,f 7,f 8,f 9,f 10,f 11,f 12,f 13,f 14,f 15,f 16,f 17,f 18,f 19,f 20,f 21,f 22,f 23,f 24,f 25,f 26,f 27,f 28,f 29,f 30,f 31,f 32,f 33,f 34,f 35,f 36,f 37,f 38,f 39,f 40,f 41,f 42,f 43,f 44,f 45,f 46,f 47,f 48,f 49,f 50,f 51,f 52,f 53,f 54]:=by
 refine ⟨fun i=>T.getD i undef,fun i v hv=>by simp [Array.getD_eq_getD_getElem?,hv],?_⟩
 generalize hf : (fun i=>T.getD i undef) = f
 have e : T.toList = (List.range 55).map f:=by
   apply List.ext_getElem?
   intro i
   rw [List.getElem?_map,Array.getElem?_toList]
   by_cases hi : i < 55
   · rw [List.getElem?_range hi,Option.map_some,← hf]
     simp [Array.getD_eq_getD_getElem?,Array.getElem?_eq_getElem (show i < T.size by omega)]
   · rw [List.getElem?_eq_none (by simp; omega),Array.getElem?_eq_none (by omega)]
     rfl
 have e2 : (List.range 55).map f = [f 0,f 1,f 2,f 3,f 4,f 5,f 6,f 7,f 8,f 9,f 10,f 11,f 12,f 13,f 14,f 15,f 16,f 17,f 18,f 19,f 20,f 21,f 22,f 23,f 24,f 25,f 26,f 27,f 28,f 29,f 30,f 31,f 32,f 33,f 34,f 35,f 36,f 37,f 38,f 39,f 40,f 41,f 42,f 43,f 44,f 45,f 46,f 47,f 48,f 49,f 50,f 51,f 52,f 53,f 54]:=rfl
 rw [e2] at e
 rw [← Array.toArray_toList (xs:=T),e]
noncomputable def B20 : Code:=Try.f20.body.getD .skip
noncomputable def X2q : Code:=nvb (nvb (nvb B20))
noncomputable def X3q : Code:=nvb X2q
noncomputable def PLq : Code:=nvl (nvk (nvb (nva X2q)))
noncomputable def QLq : Code:=nvl (nvk (nvb (nva X3q)))
noncomputable def SLq : Code:=nvl (nvk (nvb (nvk (nva (nvb QLq)))))
noncomputable def Q0n : Code:=nva B20
noncomputable def Q1n : Code:=nva (nvb B20)
noncomputable def Q2n : Code:=nva (nvb (nvb B20))
noncomputable def Q3n : Code:=nva (nva X2q)
noncomputable def Q4n : Code:=nva (nva PLq)
noncomputable def Q5n : Code:=nvb (nvb PLq)
noncomputable def Q6n : Code:=nva (nvk (nva (nvb PLq)))
noncomputable def Q7n : Code:=nva (nvb (nvk (nva (nvb PLq))))
noncomputable def Q9n : Code:=nvb (nvb (nvk (nva (nvb PLq))))
noncomputable def Q10n : Code:=nva (nva X3q)
noncomputable def Q11n : Code:=nva (nva QLq)
noncomputable def Q12n : Code:=nvb (nvb QLq)
noncomputable def Q13n : Code:=nva (nvk (nva (nvb QLq)))
noncomputable def Q14n : Code:=nva (nva SLq)
noncomputable def Q15n : Code:=nvb (nvb SLq)
noncomputable def Q16n : Code:=nvk (nva (nvb SLq))
noncomputable def Q17n : Code:=nva (nvb X3q)
theorem B20_eq : B20 = .seq Q0n (.seq Q1n (.seq Q2n (.seq (.seq Q3n (.block 0 (.loop PLq))) (.seq (.seq Q10n (.block 2 (.loop QLq))) (.seq Q17n .ret))))):=by simp only [Q0n,Q1n,Q2n,Q3n,Q4n,Q5n,Q6n,Q7n,Q9n,Q10n,Q11n,Q12n,Q13n,Q14n,Q15n,Q16n,Q17n,PLq,QLq,SLq,X2q,X3q,B20,nva,nvb,nvk,nvl,Try.f20,Option.getD_some]
theorem PLq_eq : PLq = .seq (.seq Q4n (.cond (.tmp 24) .skip (.exit 0))) (.seq (.block 1 (.seq Q6n (.seq Q7n Q9n))) Q5n):=by simp only [Q0n,Q1n,Q2n,Q3n,Q4n,Q5n,Q6n,Q7n,Q9n,Q10n,Q11n,Q12n,Q13n,Q14n,Q15n,Q16n,Q17n,PLq,QLq,SLq,X2q,X3q,B20,nva,nvb,nvk,nvl,Try.f20,Option.getD_some]
theorem QLq_eq : QLq = .seq (.seq Q11n (.cond (.tmp 43) .skip (.exit 2))) (.seq (.block 3 (.seq Q13n (.block 4 (.loop SLq)))) Q12n):=by simp only [Q0n,Q1n,Q2n,Q3n,Q4n,Q5n,Q6n,Q7n,Q9n,Q10n,Q11n,Q12n,Q13n,Q14n,Q15n,Q16n,Q17n,PLq,QLq,SLq,X2q,X3q,B20,nva,nvb,nvk,nvl,Try.f20,Option.getD_some]
theorem SLq_eq : SLq = .seq (.seq Q14n (.cond (.tmp 48) .skip (.exit 4))) (.seq (.block 5 Q16n) Q15n):=by simp only [Q0n,Q1n,Q2n,Q3n,Q4n,Q5n,Q6n,Q7n,Q9n,Q10n,Q11n,Q12n,Q13n,Q14n,Q15n,Q16n,Q17n,PLq,QLq,SLq,X2q,X3q,B20,nva,nvb,nvk,nvl,Try.f20,Option.getD_some]
def HQ (T : Array Value) (pa : Option Addr) (pl pc Rn rb sb n : Nat) : Prop:=T.size = 55 ∧ T[1]? = some (.slice pa pl pc) ∧ T[2]? = some (.int .i64 (Rn : Int)) ∧ T[6]? = some (.pointer (some ⟨rb,0,none⟩)) ∧ T[7]? = some (.pointer (some ⟨sb,0,none⟩)) ∧ T[8]? = some (.int .i64 (n : Int))
section
variable {V : World} {Z : Cuts} {Post : Value → World → Prop} {pl pc Rn rb sb n k j : Nat} {pa : Option Addr} {T : Array Value} {kt : List Item} {cs0 : List Frame}
theorem q_r3 (hn : norm V = V) (hT : HQ T pa pl pc Rn rb sb n)
   (K : ∀ T',HQ T' pa pl pc Rn rb sb n → T'[9]? = some (.int .i64 0) → To0 Try.prog Post Z V (G ((base 20).at ⟨T',[]⟩ kt) cs0)) :
   To0 Try.prog Post Z V (G ((base 20).at ⟨T,[]⟩ (.code Q3n :: kt)) cs0):=by
 refine To0.walk (will_code (L:=Lone) (R:=fun a' V'=>V' = V ∧ HQ a'.tmps pa pl pc Rn rb sb n ∧ a'.tmps[9]? = some (.int .i64 0)) calm rfl ⟨_,Try.func20⟩ rfl (by kernel_rfl) (fun τ=>?_) fun a' V' ⟨q0,q1,g9⟩ ha'=>Will.stop ?_)
 · obtain ⟨hs,t1,t2,t6,t7,t8⟩:=hT
   clear K
   obtain ⟨f,hf,hT⟩:=array55f T hs
   have et1:=hf 1 _ t1
   have et2:=hf 2 _ t2
   have et6:=hf 6 _ t6
   have et7:=hf 7 _ t7
   have et8:=hf 8 _ t8
   clear hf hs t1 t2 t6 t7 t8
   subst hT
   simp only [et1,et2,et6,et7,et8]
   clear et1 et2 et6 et7 et8
   simp only [Q0n,Q1n,Q2n,Q3n,Q4n,Q5n,Q6n,Q7n,Q9n,Q10n,Q11n,Q12n,Q13n,Q14n,Q15n,Q16n,Q17n,PLq,QLq,SLq,X2q,X3q,B20,nva,nvb,nvk,nvl,Try.f20,Option.getD_some]
   go_wp2_with fail
   all_goals (first | exact ⟨hn,⟨by simp,rfl,rfl,rfl,rfl,rfl⟩⟩ | exact ⟨hn,⟨by simp,rfl,rfl,rfl,rfl,rfl⟩,rfl⟩ | exact ⟨hn,⟨by simp,rfl,rfl,rfl,rfl,rfl⟩,rfl,rfl⟩ | exact ⟨hn,⟨by simp,rfl,rfl,rfl,rfl,rfl⟩,rfl,rfl,rfl⟩ | (simp at hx hy; refine ⟨hn,⟨by simp,rfl,rfl,rfl,rfl,rfl⟩,?_⟩; omega) | (simp at hx; refine ⟨hn,⟨by simp,rfl,rfl,rfl,rfl,rfl⟩,?_⟩; omega) | (exfalso; simp at hx; omega) | (exfalso; simp at hx hy; omega) | (refine ⟨hn,⟨by simp,rfl,rfl,rfl,rfl,rfl⟩,?_⟩; intro hh; exact absurd hh (by omega)))
 · obtain ⟨T',df⟩:=a'
   simp only at ha' q1 g9
   subst ha' q0
   exact K T' q1 g9
theorem q_r10 (hn : norm V = V) (hT : HQ T pa pl pc Rn rb sb n)
   (K : ∀ T',HQ T' pa pl pc Rn rb sb n → T'[11]? = some (.int .i64 0) → To0 Try.prog Post Z V (G ((base 20).at ⟨T',[]⟩ kt) cs0)) :
   To0 Try.prog Post Z V (G ((base 20).at ⟨T,[]⟩ (.code Q10n :: kt)) cs0):=by
 refine To0.walk (will_code (L:=Lone) (R:=fun a' V'=>V' = V ∧ HQ a'.tmps pa pl pc Rn rb sb n ∧ a'.tmps[11]? = some (.int .i64 0)) calm rfl ⟨_,Try.func20⟩ rfl (by kernel_rfl) (fun τ=>?_) fun a' V' ⟨q0,q1,g11⟩ ha'=>Will.stop ?_)
 · obtain ⟨hs,t1,t2,t6,t7,t8⟩:=hT
   clear K
   obtain ⟨f,hf,hT⟩:=array55f T hs
   have et1:=hf 1 _ t1
   have et2:=hf 2 _ t2
   have et6:=hf 6 _ t6
   have et7:=hf 7 _ t7
   have et8:=hf 8 _ t8
   clear hf hs t1 t2 t6 t7 t8
   subst hT
   simp only [et1,et2,et6,et7,et8]
   clear et1 et2 et6 et7 et8
   simp only [Q0n,Q1n,Q2n,Q3n,Q4n,Q5n,Q6n,Q7n,Q9n,Q10n,Q11n,Q12n,Q13n,Q14n,Q15n,Q16n,Q17n,PLq,QLq,SLq,X2q,X3q,B20,nva,nvb,nvk,nvl,Try.f20,Option.getD_some]
   go_wp2_with fail
   all_goals (first | exact ⟨hn,⟨by simp,rfl,rfl,rfl,rfl,rfl⟩⟩ | exact ⟨hn,⟨by simp,rfl,rfl,rfl,rfl,rfl⟩,rfl⟩ | exact ⟨hn,⟨by simp,rfl,rfl,rfl,rfl,rfl⟩,rfl,rfl⟩ | exact ⟨hn,⟨by simp,rfl,rfl,rfl,rfl,rfl⟩,rfl,rfl,rfl⟩ | (simp at hx hy; refine ⟨hn,⟨by simp,rfl,rfl,rfl,rfl,rfl⟩,?_⟩; omega) | (simp at hx; refine ⟨hn,⟨by simp,rfl,rfl,rfl,rfl,rfl⟩,?_⟩; omega) | (exfalso; simp at hx; omega) | (exfalso; simp at hx hy; omega) | (refine ⟨hn,⟨by simp,rfl,rfl,rfl,rfl,rfl⟩,?_⟩; intro hh; exact absurd hh (by omega)))
 · obtain ⟨T',df⟩:=a'
   simp only at ha' q1 g11
   subst ha' q0
   exact K T' q1 g11
theorem q_r13 (hn : norm V = V) (hT : HQ T pa pl pc Rn rb sb n) (h11 : T[11]? = some (.int .i64 (k : Int)))
   (K : ∀ T',HQ T' pa pl pc Rn rb sb n → T'[11]? = some (.int .i64 (k : Int)) → T'[12]? = some (.int .i64 0) → To0 Try.prog Post Z V (G ((base 20).at ⟨T',[]⟩ kt) cs0)) :
   To0 Try.prog Post Z V (G ((base 20).at ⟨T,[]⟩ (.code Q13n :: kt)) cs0):=by
 refine To0.walk (will_code (L:=Lone) (R:=fun a' V'=>V' = V ∧ HQ a'.tmps pa pl pc Rn rb sb n ∧ a'.tmps[11]? = some (.int .i64 (k : Int)) ∧ a'.tmps[12]? = some (.int .i64 0)) calm rfl ⟨_,Try.func20⟩ rfl (by kernel_rfl) (fun τ=>?_) fun a' V' ⟨q0,q1,g11,g12⟩ ha'=>Will.stop ?_)
 · obtain ⟨hs,t1,t2,t6,t7,t8⟩:=hT
   clear K
   obtain ⟨f,hf,hT⟩:=array55f T hs
   have et1:=hf 1 _ t1
   have et2:=hf 2 _ t2
   have et6:=hf 6 _ t6
   have et7:=hf 7 _ t7
   have et8:=hf 8 _ t8
   have eh11:=hf 11 _ h11
   clear hf hs t1 t2 t6 t7 t8 h11
   subst hT
   simp only [et1,et2,et6,et7,et8,eh11]
   clear et1 et2 et6 et7 et8 eh11
   simp only [Q0n,Q1n,Q2n,Q3n,Q4n,Q5n,Q6n,Q7n,Q9n,Q10n,Q11n,Q12n,Q13n,Q14n,Q15n,Q16n,Q17n,PLq,QLq,SLq,X2q,X3q,B20,nva,nvb,nvk,nvl,Try.f20,Option.getD_some]
   go_wp2_with fail
   all_goals (first | exact ⟨hn,⟨by simp,rfl,rfl,rfl,rfl,rfl⟩⟩ | exact ⟨hn,⟨by simp,rfl,rfl,rfl,rfl,rfl⟩,rfl⟩ | exact ⟨hn,⟨by simp,rfl,rfl,rfl,rfl,rfl⟩,rfl,rfl⟩ | exact ⟨hn,⟨by simp,rfl,rfl,rfl,rfl,rfl⟩,rfl,rfl,rfl⟩ | (simp at hx hy; refine ⟨hn,⟨by simp,rfl,rfl,rfl,rfl,rfl⟩,?_⟩; omega) | (simp at hx; refine ⟨hn,⟨by simp,rfl,rfl,rfl,rfl,rfl⟩,?_⟩; omega) | (exfalso; simp at hx; omega) | (exfalso; simp at hx hy; omega) | (refine ⟨hn,⟨by simp,rfl,rfl,rfl,rfl,rfl⟩,?_⟩; intro hh; exact absurd hh (by omega)))
 · obtain ⟨T',df⟩:=a'
   simp only at ha' q1 g11 g12
   subst ha' q0
   exact K T' q1 g11 g12
theorem q_r4 (hn : norm V = V) {x y : Bool} (hx : decide ((k : Int) < (pl : Int)) = x) (hy : decide ((0 : Int) < (n : Int)) = y) (hT : HQ T pa pl pc Rn rb sb n) (h9 : T[9]? = some (.int .i64 (k : Int)))
   (K : ∀ T',HQ T' pa pl pc Rn rb sb n → T'[9]? = some (.int .i64 (k : Int)) → T'[24]? = some (.bool (x && y)) → To0 Try.prog Post Z V (G ((base 20).at ⟨T',[]⟩ kt) cs0)) :
   To0 Try.prog Post Z V (G ((base 20).at ⟨T,[]⟩ (.code Q4n :: kt)) cs0):=by
 refine To0.walk (will_code (L:=Lone) (R:=fun a' V'=>V' = V ∧ HQ a'.tmps pa pl pc Rn rb sb n ∧ a'.tmps[9]? = some (.int .i64 (k : Int)) ∧ a'.tmps[24]? = some (.bool (x && y))) calm rfl ⟨_,Try.func20⟩ rfl (by kernel_rfl) (fun τ=>?_) fun a' V' ⟨q0,q1,g9,g24⟩ ha'=>Will.stop ?_)
 · obtain ⟨hs,t1,t2,t6,t7,t8⟩:=hT
   clear K
   obtain ⟨f,hf,hT⟩:=array55f T hs
   have et1:=hf 1 _ t1
   have et2:=hf 2 _ t2
   have et6:=hf 6 _ t6
   have et7:=hf 7 _ t7
   have et8:=hf 8 _ t8
   have eh9:=hf 9 _ h9
   clear hf hs t1 t2 t6 t7 t8 h9
   subst hT
   simp only [et1,et2,et6,et7,et8,eh9]
   clear et1 et2 et6 et7 et8 eh9
   simp only [Q0n,Q1n,Q2n,Q3n,Q4n,Q5n,Q6n,Q7n,Q9n,Q10n,Q11n,Q12n,Q13n,Q14n,Q15n,Q16n,Q17n,PLq,QLq,SLq,X2q,X3q,B20,nva,nvb,nvk,nvl,Try.f20,Option.getD_some]
   cases x <;> cases y
   all_goals (go_wp2_with fail; all_goals (first | exact ⟨hn,⟨by simp,rfl,rfl,rfl,rfl,rfl⟩⟩ | exact ⟨hn,⟨by simp,rfl,rfl,rfl,rfl,rfl⟩,rfl⟩ | exact ⟨hn,⟨by simp,rfl,rfl,rfl,rfl,rfl⟩,rfl,rfl⟩ | exact ⟨hn,⟨by simp,rfl,rfl,rfl,rfl,rfl⟩,rfl,rfl,rfl⟩ | (simp at hx hy; refine ⟨hn,⟨by simp,rfl,rfl,rfl,rfl,rfl⟩,?_⟩; omega) | (simp at hx; refine ⟨hn,⟨by simp,rfl,rfl,rfl,rfl,rfl⟩,?_⟩; omega) | (exfalso; simp at hx; omega) | (exfalso; simp at hx hy; omega) | (refine ⟨hn,⟨by simp,rfl,rfl,rfl,rfl,rfl⟩,?_⟩; intro hh; exact absurd hh (by omega))))
 · obtain ⟨T',df⟩:=a'
   simp only at ha' q1 g9 g24
   subst ha' q0
   exact K T' q1 g9 g24
theorem q_r11 (hn : norm V = V) {x : Bool} (hx : decide ((k : Int) < (Rn : Int)) = x) (hT : HQ T pa pl pc Rn rb sb n) (h11 : T[11]? = some (.int .i64 (k : Int)))
   (K : ∀ T',HQ T' pa pl pc Rn rb sb n → T'[11]? = some (.int .i64 (k : Int)) → T'[43]? = some (.bool x) → To0 Try.prog Post Z V (G ((base 20).at ⟨T',[]⟩ kt) cs0)) :
   To0 Try.prog Post Z V (G ((base 20).at ⟨T,[]⟩ (.code Q11n :: kt)) cs0):=by
 refine To0.walk (will_code (L:=Lone) (R:=fun a' V'=>V' = V ∧ HQ a'.tmps pa pl pc Rn rb sb n ∧ a'.tmps[11]? = some (.int .i64 (k : Int)) ∧ a'.tmps[43]? = some (.bool x)) calm rfl ⟨_,Try.func20⟩ rfl (by kernel_rfl) (fun τ=>?_) fun a' V' ⟨q0,q1,g11,g43⟩ ha'=>Will.stop ?_)
 · obtain ⟨hs,t1,t2,t6,t7,t8⟩:=hT
   clear K
   obtain ⟨f,hf,hT⟩:=array55f T hs
   have et1:=hf 1 _ t1
   have et2:=hf 2 _ t2
   have et6:=hf 6 _ t6
   have et7:=hf 7 _ t7
   have et8:=hf 8 _ t8
   have eh11:=hf 11 _ h11
   clear hf hs t1 t2 t6 t7 t8 h11
   subst hT
   simp only [et1,et2,et6,et7,et8,eh11]
   clear et1 et2 et6 et7 et8 eh11
   simp only [Q0n,Q1n,Q2n,Q3n,Q4n,Q5n,Q6n,Q7n,Q9n,Q10n,Q11n,Q12n,Q13n,Q14n,Q15n,Q16n,Q17n,PLq,QLq,SLq,X2q,X3q,B20,nva,nvb,nvk,nvl,Try.f20,Option.getD_some]
   cases x
   all_goals (go_wp2_with fail; all_goals (first | exact ⟨hn,⟨by simp,rfl,rfl,rfl,rfl,rfl⟩⟩ | exact ⟨hn,⟨by simp,rfl,rfl,rfl,rfl,rfl⟩,rfl⟩ | exact ⟨hn,⟨by simp,rfl,rfl,rfl,rfl,rfl⟩,rfl,rfl⟩ | exact ⟨hn,⟨by simp,rfl,rfl,rfl,rfl,rfl⟩,rfl,rfl,rfl⟩ | (simp at hx hy; refine ⟨hn,⟨by simp,rfl,rfl,rfl,rfl,rfl⟩,?_⟩; omega) | (simp at hx; refine ⟨hn,⟨by simp,rfl,rfl,rfl,rfl,rfl⟩,?_⟩; omega) | (exfalso; simp at hx; omega) | (exfalso; simp at hx hy; omega) | (refine ⟨hn,⟨by simp,rfl,rfl,rfl,rfl,rfl⟩,?_⟩; intro hh; exact absurd hh (by omega))))
 · obtain ⟨T',df⟩:=a'
   simp only at ha' q1 g11 g43
   subst ha' q0
   exact K T' q1 g11 g43
theorem q_r14 (hn : norm V = V) {x : Bool} (hx : decide ((j : Int) < (n : Int)) = x) (hT : HQ T pa pl pc Rn rb sb n) (h11 : T[11]? = some (.int .i64 (k : Int))) (h12 : T[12]? = some (.int .i64 (j : Int)))
   (K : ∀ T',HQ T' pa pl pc Rn rb sb n → T'[11]? = some (.int .i64 (k : Int)) → T'[12]? = some (.int .i64 (j : Int)) → T'[48]? = some (.bool x) → To0 Try.prog Post Z V (G ((base 20).at ⟨T',[]⟩ kt) cs0)) :
   To0 Try.prog Post Z V (G ((base 20).at ⟨T,[]⟩ (.code Q14n :: kt)) cs0):=by
 refine To0.walk (will_code (L:=Lone) (R:=fun a' V'=>V' = V ∧ HQ a'.tmps pa pl pc Rn rb sb n ∧ a'.tmps[11]? = some (.int .i64 (k : Int)) ∧ a'.tmps[12]? = some (.int .i64 (j : Int)) ∧ a'.tmps[48]? = some (.bool x)) calm rfl ⟨_,Try.func20⟩ rfl (by kernel_rfl) (fun τ=>?_) fun a' V' ⟨q0,q1,g11,g12,g48⟩ ha'=>Will.stop ?_)
 · obtain ⟨hs,t1,t2,t6,t7,t8⟩:=hT
   clear K
   obtain ⟨f,hf,hT⟩:=array55f T hs
   have et1:=hf 1 _ t1
   have et2:=hf 2 _ t2
   have et6:=hf 6 _ t6
   have et7:=hf 7 _ t7
   have et8:=hf 8 _ t8
   have eh11:=hf 11 _ h11
   have eh12:=hf 12 _ h12
   clear hf hs t1 t2 t6 t7 t8 h11 h12
   subst hT
   simp only [et1,et2,et6,et7,et8,eh11,eh12]
   clear et1 et2 et6 et7 et8 eh11 eh12
   simp only [Q0n,Q1n,Q2n,Q3n,Q4n,Q5n,Q6n,Q7n,Q9n,Q10n,Q11n,Q12n,Q13n,Q14n,Q15n,Q16n,Q17n,PLq,QLq,SLq,X2q,X3q,B20,nva,nvb,nvk,nvl,Try.f20,Option.getD_some]
   cases x
   all_goals (go_wp2_with fail; all_goals (first | exact ⟨hn,⟨by simp,rfl,rfl,rfl,rfl,rfl⟩⟩ | exact ⟨hn,⟨by simp,rfl,rfl,rfl,rfl,rfl⟩,rfl⟩ | exact ⟨hn,⟨by simp,rfl,rfl,rfl,rfl,rfl⟩,rfl,rfl⟩ | exact ⟨hn,⟨by simp,rfl,rfl,rfl,rfl,rfl⟩,rfl,rfl,rfl⟩ | (simp at hx hy; refine ⟨hn,⟨by simp,rfl,rfl,rfl,rfl,rfl⟩,?_⟩; omega) | (simp at hx; refine ⟨hn,⟨by simp,rfl,rfl,rfl,rfl,rfl⟩,?_⟩; omega) | (exfalso; simp at hx; omega) | (exfalso; simp at hx hy; omega) | (refine ⟨hn,⟨by simp,rfl,rfl,rfl,rfl,rfl⟩,?_⟩; intro hh; exact absurd hh (by omega))))
 · obtain ⟨T',df⟩:=a'
   simp only at ha' q1 g11 g12 g48
   subst ha' q0
   exact K T' q1 g11 g12 g48
theorem q_r5 (hn : norm V = V) (hk : k < 1000000000) (hT : HQ T pa pl pc Rn rb sb n) (h9 : T[9]? = some (.int .i64 (k : Int)))
   (K : ∀ T',HQ T' pa pl pc Rn rb sb n → T'[9]? = some (.int .i64 ((k + 1 : Nat) : Int)) → To0 Try.prog Post Z V (G ((base 20).at ⟨T',[]⟩ kt) cs0)) :
   To0 Try.prog Post Z V (G ((base 20).at ⟨T,[]⟩ (.code Q5n :: kt)) cs0):=by
 refine To0.walk (will_code (L:=Lone) (R:=fun a' V'=>V' = V ∧ HQ a'.tmps pa pl pc Rn rb sb n ∧ a'.tmps[9]? = some (.int .i64 ((k + 1 : Nat) : Int))) calm rfl ⟨_,Try.func20⟩ rfl (by kernel_rfl) (fun τ=>?_) fun a' V' ⟨q0,q1,g9⟩ ha'=>Will.stop ?_)
 · obtain ⟨hs,t1,t2,t6,t7,t8⟩:=hT
   have w1 : IntKind.i64.wrap ((k : Int) + 1) = ((k + 1 : Nat) : Int):=by rw [IntKind.wrap_i64]; omega
   clear K
   obtain ⟨f,hf,hT⟩:=array55f T hs
   have et1:=hf 1 _ t1
   have et2:=hf 2 _ t2
   have et6:=hf 6 _ t6
   have et7:=hf 7 _ t7
   have et8:=hf 8 _ t8
   have eh9:=hf 9 _ h9
   clear hf hs t1 t2 t6 t7 t8 h9
   subst hT
   simp only [et1,et2,et6,et7,et8,eh9]
   clear et1 et2 et6 et7 et8 eh9
   simp only [Q0n,Q1n,Q2n,Q3n,Q4n,Q5n,Q6n,Q7n,Q9n,Q10n,Q11n,Q12n,Q13n,Q14n,Q15n,Q16n,Q17n,PLq,QLq,SLq,X2q,X3q,B20,nva,nvb,nvk,nvl,Try.f20,Option.getD_some]
   go_wp2_with fail
   all_goals (first | exact ⟨hn,⟨by simp,rfl,rfl,rfl,rfl,rfl⟩⟩ | exact ⟨hn,⟨by simp,rfl,rfl,rfl,rfl,rfl⟩,rfl⟩ | exact ⟨hn,⟨by simp,rfl,rfl,rfl,rfl,rfl⟩,rfl,rfl⟩ | exact ⟨hn,⟨by simp,rfl,rfl,rfl,rfl,rfl⟩,rfl,rfl,rfl⟩ | (simp at hx hy; refine ⟨hn,⟨by simp,rfl,rfl,rfl,rfl,rfl⟩,?_⟩; omega) | (simp at hx; refine ⟨hn,⟨by simp,rfl,rfl,rfl,rfl,rfl⟩,?_⟩; omega) | (exfalso; simp at hx; omega) | (exfalso; simp at hx hy; omega) | (refine ⟨hn,⟨by simp,rfl,rfl,rfl,rfl,rfl⟩,?_⟩; intro hh; exact absurd hh (by omega)))
 · obtain ⟨T',df⟩:=a'
   simp only at ha' q1 g9
   subst ha' q0
   exact K T' q1 g9
theorem q_r12 (hn : norm V = V) (hk : k < 1000000000) (hT : HQ T pa pl pc Rn rb sb n) (h11 : T[11]? = some (.int .i64 (k : Int)))
   (K : ∀ T',HQ T' pa pl pc Rn rb sb n → T'[11]? = some (.int .i64 ((k + 1 : Nat) : Int)) → To0 Try.prog Post Z V (G ((base 20).at ⟨T',[]⟩ kt) cs0)) :
   To0 Try.prog Post Z V (G ((base 20).at ⟨T,[]⟩ (.code Q12n :: kt)) cs0):=by
 refine To0.walk (will_code (L:=Lone) (R:=fun a' V'=>V' = V ∧ HQ a'.tmps pa pl pc Rn rb sb n ∧ a'.tmps[11]? = some (.int .i64 ((k + 1 : Nat) : Int))) calm rfl ⟨_,Try.func20⟩ rfl (by kernel_rfl) (fun τ=>?_) fun a' V' ⟨q0,q1,g11⟩ ha'=>Will.stop ?_)
 · obtain ⟨hs,t1,t2,t6,t7,t8⟩:=hT
   have w1 : IntKind.i64.wrap ((k : Int) + 1) = ((k + 1 : Nat) : Int):=by rw [IntKind.wrap_i64]; omega
   clear K
   obtain ⟨f,hf,hT⟩:=array55f T hs
   have et1:=hf 1 _ t1
   have et2:=hf 2 _ t2
   have et6:=hf 6 _ t6
   have et7:=hf 7 _ t7
   have et8:=hf 8 _ t8
   have eh11:=hf 11 _ h11
   clear hf hs t1 t2 t6 t7 t8 h11
   subst hT
   simp only [et1,et2,et6,et7,et8,eh11]
   clear et1 et2 et6 et7 et8 eh11
   simp only [Q0n,Q1n,Q2n,Q3n,Q4n,Q5n,Q6n,Q7n,Q9n,Q10n,Q11n,Q12n,Q13n,Q14n,Q15n,Q16n,Q17n,PLq,QLq,SLq,X2q,X3q,B20,nva,nvb,nvk,nvl,Try.f20,Option.getD_some]
   go_wp2_with fail
   all_goals (first | exact ⟨hn,⟨by simp,rfl,rfl,rfl,rfl,rfl⟩⟩ | exact ⟨hn,⟨by simp,rfl,rfl,rfl,rfl,rfl⟩,rfl⟩ | exact ⟨hn,⟨by simp,rfl,rfl,rfl,rfl,rfl⟩,rfl,rfl⟩ | exact ⟨hn,⟨by simp,rfl,rfl,rfl,rfl,rfl⟩,rfl,rfl,rfl⟩ | (simp at hx hy; refine ⟨hn,⟨by simp,rfl,rfl,rfl,rfl,rfl⟩,?_⟩; omega) | (simp at hx; refine ⟨hn,⟨by simp,rfl,rfl,rfl,rfl,rfl⟩,?_⟩; omega) | (exfalso; simp at hx; omega) | (exfalso; simp at hx hy; omega) | (refine ⟨hn,⟨by simp,rfl,rfl,rfl,rfl,rfl⟩,?_⟩; intro hh; exact absurd hh (by omega)))
 · obtain ⟨T',df⟩:=a'
   simp only at ha' q1 g11
   subst ha' q0
   exact K T' q1 g11
theorem q_r15 (hn : norm V = V) (hj : j < 1000000000) (hT : HQ T pa pl pc Rn rb sb n) (h11 : T[11]? = some (.int .i64 (k : Int))) (h12 : T[12]? = some (.int .i64 (j : Int)))
   (K : ∀ T',HQ T' pa pl pc Rn rb sb n → T'[11]? = some (.int .i64 (k : Int)) → T'[12]? = some (.int .i64 ((j + 1 : Nat) : Int)) → To0 Try.prog Post Z V (G ((base 20).at ⟨T',[]⟩ kt) cs0)) :
   To0 Try.prog Post Z V (G ((base 20).at ⟨T,[]⟩ (.code Q15n :: kt)) cs0):=by
 refine To0.walk (will_code (L:=Lone) (R:=fun a' V'=>V' = V ∧ HQ a'.tmps pa pl pc Rn rb sb n ∧ a'.tmps[11]? = some (.int .i64 (k : Int)) ∧ a'.tmps[12]? = some (.int .i64 ((j + 1 : Nat) : Int))) calm rfl ⟨_,Try.func20⟩ rfl (by kernel_rfl) (fun τ=>?_) fun a' V' ⟨q0,q1,g11,g12⟩ ha'=>Will.stop ?_)
 · obtain ⟨hs,t1,t2,t6,t7,t8⟩:=hT
   have w1 : IntKind.i64.wrap ((j : Int) + 1) = ((j + 1 : Nat) : Int):=by rw [IntKind.wrap_i64]; omega
   clear K
   obtain ⟨f,hf,hT⟩:=array55f T hs
   have et1:=hf 1 _ t1
   have et2:=hf 2 _ t2
   have et6:=hf 6 _ t6
   have et7:=hf 7 _ t7
   have et8:=hf 8 _ t8
   have eh11:=hf 11 _ h11
   have eh12:=hf 12 _ h12
   clear hf hs t1 t2 t6 t7 t8 h11 h12
   subst hT
   simp only [et1,et2,et6,et7,et8,eh11,eh12]
   clear et1 et2 et6 et7 et8 eh11 eh12
   simp only [Q0n,Q1n,Q2n,Q3n,Q4n,Q5n,Q6n,Q7n,Q9n,Q10n,Q11n,Q12n,Q13n,Q14n,Q15n,Q16n,Q17n,PLq,QLq,SLq,X2q,X3q,B20,nva,nvb,nvk,nvl,Try.f20,Option.getD_some]
   go_wp2_with fail
   all_goals (first | exact ⟨hn,⟨by simp,rfl,rfl,rfl,rfl,rfl⟩⟩ | exact ⟨hn,⟨by simp,rfl,rfl,rfl,rfl,rfl⟩,rfl⟩ | exact ⟨hn,⟨by simp,rfl,rfl,rfl,rfl,rfl⟩,rfl,rfl⟩ | exact ⟨hn,⟨by simp,rfl,rfl,rfl,rfl,rfl⟩,rfl,rfl,rfl⟩ | (simp at hx hy; refine ⟨hn,⟨by simp,rfl,rfl,rfl,rfl,rfl⟩,?_⟩; omega) | (simp at hx; refine ⟨hn,⟨by simp,rfl,rfl,rfl,rfl,rfl⟩,?_⟩; omega) | (exfalso; simp at hx; omega) | (exfalso; simp at hx hy; omega) | (refine ⟨hn,⟨by simp,rfl,rfl,rfl,rfl,rfl⟩,?_⟩; intro hh; exact absurd hh (by omega)))
 · obtain ⟨T',df⟩:=a'
   simp only at ha' q1 g11 g12
   subst ha' q0
   exact K T' q1 g11 g12
theorem tmod_lt {n : Nat} (h : 0 < n) (p : Int) : -(n : Int) < p.tmod n ∧ p.tmod n < n:=by
 have h1:=Int.lt_tmod_of_pos p (show (0 : Int) < n by omega)
 have h2:=Int.tmod_lt_of_pos p (show (0 : Int) < n by omega)
 omega
theorem pidx_neg {n : Nat} (h : 0 < n) (p : Int) (hp : p.tmod n < 0) : ((pidx n p : Nat) : Int) = p.tmod n + n:=by
 obtain ⟨h1,h2⟩:=tmod_lt h p
 unfold pidx
 rw [Int.tmod_eq_emod_of_nonneg (a:=p.tmod n + n) (by omega),Int.emod_eq_of_lt (by omega) (by omega)]
 omega
theorem pidx_pos {n : Nat} (h : 0 < n) (p : Int) (hp : ¬ p.tmod n < 0) : ((pidx n p : Nat) : Int) = p.tmod n:=by
 obtain ⟨h1,h2⟩:=tmod_lt h p
 unfold pidx
 rw [Int.tmod_eq_emod_of_nonneg (a:=p.tmod n + n) (by omega),Int.add_emod_right,Int.emod_eq_of_lt (by omega) (by omega)]
 omega
theorem q_r6 (hn : norm V = V) {g o : Nat} {p : Int} (hpa : pa = some ⟨g,o,none⟩) (hk : k < pl) (hc : V.cell? ⟨g,o + k,none⟩ = some (.int .i64 p)) (h0 : 0 < n) (hn9 : n < 1000000) (hT : HQ T pa pl pc Rn rb sb n) (h9 : T[9]? = some (.int .i64 (k : Int)))
   (K : ∀ T',HQ T' pa pl pc Rn rb sb n → T'[9]? = some (.int .i64 (k : Int)) → T'[10]? = some (.int .i64 (p.tmod (n : Int))) → To0 Try.prog Post Z V (G ((base 20).at ⟨T',[]⟩ kt) cs0)) :
   To0 Try.prog Post Z V (G ((base 20).at ⟨T,[]⟩ (.code Q6n :: kt)) cs0):=by
 refine To0.walk (will_code (L:=Lone) (R:=fun a' V'=>V' = V ∧ HQ a'.tmps pa pl pc Rn rb sb n ∧ a'.tmps[9]? = some (.int .i64 (k : Int)) ∧ a'.tmps[10]? = some (.int .i64 (p.tmod (n : Int)))) calm rfl ⟨_,Try.func20⟩ rfl (by kernel_rfl) (fun τ=>?_) fun a' V' ⟨q0,q1,g9,g10⟩ ha'=>Will.stop ?_)
 · obtain ⟨hs,t1,t2,t6,t7,t8⟩:=hT
   have q1 : ¬ ((k : Int) < 0):=by omega
   have q2 : ¬ ((pl : Int) ≤ (k : Int)):=by omega
   have d1 : (re V τ 0).cell? ⟨g,o + k,none⟩ = some (.int .i64 p):=hc
   have q3 : ((n : Int) == 0) = false:=by simp; omega
   have q4 : (n : Int) ≠ 0:=by omega
   have w1 : IntKind.i64.wrap (p.tmod (n : Int)) = p.tmod (n : Int):=by have:=tmod_lt h0 p; rw [IntKind.wrap_i64]; omega
   subst hpa
   clear hc
   clear K
   obtain ⟨f,hf,hT⟩:=array55f T hs
   have et1:=hf 1 _ t1
   have et2:=hf 2 _ t2
   have et6:=hf 6 _ t6
   have et7:=hf 7 _ t7
   have et8:=hf 8 _ t8
   have eh9:=hf 9 _ h9
   clear hf hs t1 t2 t6 t7 t8 h9
   subst hT
   simp only [et1,et2,et6,et7,et8,eh9]
   clear et1 et2 et6 et7 et8 eh9
   simp only [Q0n,Q1n,Q2n,Q3n,Q4n,Q5n,Q6n,Q7n,Q9n,Q10n,Q11n,Q12n,Q13n,Q14n,Q15n,Q16n,Q17n,PLq,QLq,SLq,X2q,X3q,B20,nva,nvb,nvk,nvl,Try.f20,Option.getD_some]
   go_wp2_with fail
   all_goals (first | exact ⟨hn,⟨by simp,rfl,rfl,rfl,rfl,rfl⟩⟩ | exact ⟨hn,⟨by simp,rfl,rfl,rfl,rfl,rfl⟩,rfl⟩ | exact ⟨hn,⟨by simp,rfl,rfl,rfl,rfl,rfl⟩,rfl,rfl⟩ | exact ⟨hn,⟨by simp,rfl,rfl,rfl,rfl,rfl⟩,rfl,rfl,rfl⟩ | (simp at hx hy; refine ⟨hn,⟨by simp,rfl,rfl,rfl,rfl,rfl⟩,?_⟩; omega) | (simp at hx; refine ⟨hn,⟨by simp,rfl,rfl,rfl,rfl,rfl⟩,?_⟩; omega) | (exfalso; simp at hx; omega) | (exfalso; simp at hx hy; omega) | (refine ⟨hn,⟨by simp,rfl,rfl,rfl,rfl,rfl⟩,?_⟩; intro hh; exact absurd hh (by omega)))
 · obtain ⟨T',df⟩:=a'
   simp only at ha' q1 g9 g10
   subst ha' q0
   exact K T' q1 g9 g10
theorem q_r7 (hn : norm V = V) {p : Int} (h0 : 0 < n) (hn9 : n < 1000000) (hT : HQ T pa pl pc Rn rb sb n) (h9 : T[9]? = some (.int .i64 (k : Int))) (h10 : T[10]? = some (.int .i64 (p.tmod (n : Int))))
   (K : ∀ T',HQ T' pa pl pc Rn rb sb n → T'[9]? = some (.int .i64 (k : Int)) → T'[10]? = some (.int .i64 ((pidx n p : Nat) : Int)) → To0 Try.prog Post Z V (G ((base 20).at ⟨T',[]⟩ kt) cs0)) :
   To0 Try.prog Post Z V (G ((base 20).at ⟨T,[]⟩ (.code Q7n :: kt)) cs0):=by
 refine To0.walk (will_code (L:=Lone) (R:=fun a' V'=>V' = V ∧ HQ a'.tmps pa pl pc Rn rb sb n ∧ a'.tmps[9]? = some (.int .i64 (k : Int)) ∧ a'.tmps[10]? = some (.int .i64 ((pidx n p : Nat) : Int))) calm rfl ⟨_,Try.func20⟩ rfl (by kernel_rfl) (fun τ=>?_) fun a' V' ⟨q0,q1,g9,g10⟩ ha'=>Will.stop ?_)
 · obtain ⟨hs,t1,t2,t6,t7,t8⟩:=hT
   have ht:=tmod_lt h0 p
   have hq : ((pidx n p : Nat) : Int) = if p.tmod (n : Int) < 0 then p.tmod (n : Int) + (n : Int) else p.tmod (n : Int):=by
     split
     · rename_i h; exact pidx_neg h0 p h
     · rename_i h; exact pidx_pos h0 p h
   have w1 : IntKind.i64.wrap (p.tmod (n : Int) + (n : Int)) = p.tmod (n : Int) + (n : Int):=by rw [IntKind.wrap_i64]; omega
   rw [hq]
   clear hq ht
   clear K
   obtain ⟨f,hf,hT⟩:=array55f T hs
   have et1:=hf 1 _ t1
   have et2:=hf 2 _ t2
   have et6:=hf 6 _ t6
   have et7:=hf 7 _ t7
   have et8:=hf 8 _ t8
   have eh9:=hf 9 _ h9
   have eh10:=hf 10 _ h10
   clear hf hs t1 t2 t6 t7 t8 h9 h10
   subst hT
   simp only [et1,et2,et6,et7,et8,eh9,eh10]
   clear et1 et2 et6 et7 et8 eh9 eh10
   simp only [Q0n,Q1n,Q2n,Q3n,Q4n,Q5n,Q6n,Q7n,Q9n,Q10n,Q11n,Q12n,Q13n,Q14n,Q15n,Q16n,Q17n,PLq,QLq,SLq,X2q,X3q,B20,nva,nvb,nvk,nvl,Try.f20,Option.getD_some]
   by_cases hneg : p.tmod (n : Int) < 0
   · have q5 : decide (p.tmod (n : Int) < 0) = true:=decide_eq_true hneg
     go_wp2_with fail
     try rw [if_pos hneg]
     all_goals (first | exact ⟨hn,⟨by simp,rfl,rfl,rfl,rfl,rfl⟩⟩ | exact ⟨hn,⟨by simp,rfl,rfl,rfl,rfl,rfl⟩,rfl⟩ | exact ⟨hn,⟨by simp,rfl,rfl,rfl,rfl,rfl⟩,rfl,rfl⟩ | exact ⟨hn,⟨by simp,rfl,rfl,rfl,rfl,rfl⟩,rfl,rfl,rfl⟩ | (simp at hx hy; refine ⟨hn,⟨by simp,rfl,rfl,rfl,rfl,rfl⟩,?_⟩; omega) | (simp at hx; refine ⟨hn,⟨by simp,rfl,rfl,rfl,rfl,rfl⟩,?_⟩; omega) | (exfalso; simp at hx; omega) | (exfalso; simp at hx hy; omega) | (refine ⟨hn,⟨by simp,rfl,rfl,rfl,rfl,rfl⟩,?_⟩; intro hh; exact absurd hh (by omega)))
   · have q5 : decide (p.tmod (n : Int) < 0) = false:=decide_eq_false hneg
     go_wp2_with fail
     try rw [if_neg hneg]
     all_goals (first | exact ⟨hn,⟨by simp,rfl,rfl,rfl,rfl,rfl⟩⟩ | exact ⟨hn,⟨by simp,rfl,rfl,rfl,rfl,rfl⟩,rfl⟩ | exact ⟨hn,⟨by simp,rfl,rfl,rfl,rfl,rfl⟩,rfl,rfl⟩ | exact ⟨hn,⟨by simp,rfl,rfl,rfl,rfl,rfl⟩,rfl,rfl,rfl⟩ | (simp at hx hy; refine ⟨hn,⟨by simp,rfl,rfl,rfl,rfl,rfl⟩,?_⟩; omega) | (simp at hx; refine ⟨hn,⟨by simp,rfl,rfl,rfl,rfl,rfl⟩,?_⟩; omega) | (exfalso; simp at hx; omega) | (exfalso; simp at hx hy; omega) | (refine ⟨hn,⟨by simp,rfl,rfl,rfl,rfl,rfl⟩,?_⟩; intro hh; exact absurd hh (by omega)))
 · obtain ⟨T',df⟩:=a'
   simp only at ha' q1 g9 g10
   subst ha' q0
   exact K T' q1 g9 g10
end
section
variable {V0 V V1 W : World} {n lc i sb rb : Nat} {la : Option Addr} {acts : Nat → List (Int × Int)} {ra : Nat → Option Addr} {rc : Nat → Nat} {x : TS × List Nat} {v : Value}
theorem RS.self (S : RS V0 n la lc acts x v V) : RS V n la lc acts x v V:=⟨S.nrm,Kp.refl V,S.out,S.le,S.cnt⟩
theorem RS.back (S : RS V n la lc acts x v V1) (h : Kp V0 V) : RS V0 n la lc acts x v V1:=⟨S.nrm,h.trans S.kp,S.out,S.le,S.cnt⟩
theorem RS.put (S : RS V0 n la lc acts x v V) {c : Array Value} (hb : V.heap[sb]? = some (.cells c 34 (0,0))) (hlo : V0.heap.size ≤ sb) (hoff : ∀ b,b ≠ sb → W.heap[b]? = V.heap[b]?) (hsz : W.heap.size = V.heap.size) (hn : norm W = W) : RS V0 n la lc acts x v W:=by
 obtain ⟨nrm,kp,⟨av,ov,pv,odv,lgv,e,r1,r2,r3,r4,r5⟩,le,cnt⟩:=S
 refine ⟨hn,⟨by rw [hsz]; exact kp.size,fun b h=>by rw [hoff b (by omega)]; exact kp.keep b h⟩,⟨av,ov,pv,odv,lgv,e,row_keep r1 fun b h=>hoff b fun e=>own_tyK r1 hb (by decide) (e ▸ h),row_keep r2 fun b h=>hoff b fun e=>own_tyK r2 hb (by decide) (e ▸ h),row_keep r3 fun b h=>hoff b fun e=>own_tyK r3 hb (by decide) (e ▸ h),row_keep r4 fun b h=>hoff b fun e=>own_tyK r4 hb (by decide) (e ▸ h),row_keep r5 fun b h=>hoff b fun e=>own_tyK r5 hb (by decide) (e ▸ h)⟩,le,cnt⟩
structure QS (V0 : World) (n : Nat) (la : Option Addr) (lc : Nat) (acts : Nat → List (Int × Int)) (sb rb : Nat) (x : TS × List Nat) (V : World) : Prop where
 rs : ∃ c,RS V0 n la lc acts x (.agg c) V ∧ V.heap[sb]? = some (.cells c 34 (0,0))
 rbc : V.heap[rb]? = some (.cells #[.slice none 0 0,.slice none 0 0,.slice none 0 0,.slice none 0 0,.slice none 0 0,.slice none 0 0] 34 (0,0))
 lo : V0.heap.size ≤ sb ∧ V0.heap.size ≤ rb ∧ sb ≠ rb
theorem RS.six (S : RS V0 n la lc acts x v V) : ∃ a1 b1 c1 a2 b2 c2 a3 b3 c3 a4 b4 c4 a5 b5 c5,v = .agg #[.slice la n lc,.slice a1 b1 c1,.slice a2 b2 c2,.slice a3 b3 c3,.slice a4 b4 c4,.slice a5 b5 c5]:=by
 obtain ⟨av,ov,pv,odv,lgv,e,r1,r2,r3,r4,r5⟩:=S.out
 obtain ⟨a1,b1,c1,rfl⟩:=slice_of r1
 obtain ⟨a2,b2,c2,rfl⟩:=slice_of r2
 obtain ⟨a3,b3,c3,rfl⟩:=slice_of r3
 obtain ⟨a4,b4,c4,rfl⟩:=slice_of r4
 obtain ⟨a5,b5,c5,rfl⟩:=slice_ofR r5
 exact ⟨_,_,_,_,_,_,_,_,_,_,_,_,_,_,_,e⟩
end
end Go.Proofs.Ytibcdikfbhmheaa
