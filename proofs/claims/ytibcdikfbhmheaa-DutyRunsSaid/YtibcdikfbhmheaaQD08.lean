import Derived.Test.YtibcdikfbhmheaaQD05
set_option linter.unusedSimpArgs false
set_option linter.unusedVariables false
set_option maxRecDepth 100000
set_option maxHeartbeats 4000000
namespace Go.Proofs.Ytibcdikfbhmheaa
open Go Go.Conc Go.Proofs
open Go.ConcN (sumTo upd sumTo_upd upd_ne upd_same)
set_option linter.unusedVariables false
section
variable {Ve V : World} {Z : Cuts} {Post : Value → World → Prop} {n lc pl pc Rn sb rb : Nat} {la pa : Option Addr} {acts : Nat → List (Int × Int)} {x : TS × List Nat} {T : Array Value} {kt : List Item} {b₀ : Frame} {a₀ : Act} {ops₀ : Array Oper} {i₀ : Nat} {rest₀ : List Nat} {k₀ : List Item} {cs0 : List Frame}
def HQ0 (T : Array Value) (la : Option Addr) (n lc : Nat) (pa : Option Addr) (pl pc Rn : Nat) : Prop:=T.size = 55 ∧ T[0]? = some (.slice la n lc) ∧ T[1]? = some (.slice pa pl pc) ∧ T[2]? = some (.int .i64 (Rn : Int))
theorem q_r0 (hT : HQ0 T la n lc pa pl pc Rn)
   (K : ∀ T' V',HQ0 T' la n lc pa pl pc Rn → T'[6]? = some (.pointer (some ⟨V.heap.size,0,none⟩)) → norm V' = V' → Kp V V' → V'.heap[V.heap.size]? = some (.cells #[.slice none 0 0,.slice none 0 0,.slice none 0 0,.slice none 0 0,.slice none 0 0,.slice none 0 0] 34 (0,0)) → To0 Try.prog Post Z V' (G ((base 20).at ⟨T',[]⟩ kt) cs0)) :
   To0 Try.prog Post Z V (G ((base 20).at ⟨T,[]⟩ (.code Q0n :: kt)) cs0):=by
 refine To0.walk (will_code (L:=Lone) (R:=fun a' V'=>HQ0 a'.tmps la n lc pa pl pc Rn ∧ a'.tmps[6]? = some (.pointer (some ⟨V.heap.size,0,none⟩)) ∧ norm V' = V' ∧ Kp V V' ∧ V'.heap[V.heap.size]? = some (.cells #[.slice none 0 0,.slice none 0 0,.slice none 0 0,.slice none 0 0,.slice none 0 0,.slice none 0 0] 34 (0,0))) calm rfl ⟨_,Try.func20⟩ rfl (by kernel_rfl) (fun τ=>?_) fun a' V' ⟨q0,q1,q2,q3,q4⟩ ha'=>Will.stop ?_)
 · obtain ⟨hs,t0,t1,t2⟩:=hT
   clear K
   have hz : (re V τ 0).heap.size = V.heap.size:=rfl
   obtain ⟨f,hf,hT⟩:=array55f T hs
   have et0:=hf 0 _ t0
   have et1:=hf 1 _ t1
   have et2:=hf 2 _ t2
   clear hf hs t0 t1 t2
   subst hT
   simp only [et0,et1,et2]
   clear et0 et1 et2
   simp only [Q0n,Q1n,Q2n,Q3n,Q4n,Q5n,Q6n,Q7n,Q9n,Q10n,Q11n,Q12n,Q13n,Q14n,Q15n,Q16n,Q17n,PLq,QLq,SLq,X2q,X3q,B20,nva,nvb,nvk,nvl,Try.f20,Option.getD_some]
   go_wp2_with fail
   refine ⟨⟨by simp,rfl,rfl,rfl⟩,rfl,Kp.mk ?_ (fun b hb=>?_),?_⟩
   · show _ ≤ (World.alloc (re V τ 0) _).heap.size
     rw [alloc_size,hz]; omega
   · show (World.alloc (re V τ 0) _).heap[b]? = _
     rw [alloc_get,if_neg (by rw [hz]; omega)]; rfl
   · show (World.alloc (re V τ 0) _).heap[V.heap.size]? = _
     rw [alloc_get,if_pos hz.symm]
 · obtain ⟨T',df⟩:=a'
   simp only at ha' q0 q1
   subst ha'
   exact K T' V' q0 q1 q2 q3 q4
theorem q_r1 (hn : n ≤ 1000) (hk : Kp Ve V) (hrb : V.heap[rb]? = some (.cells #[.slice none 0 0,.slice none 0 0,.slice none 0 0,.slice none 0 0,.slice none 0 0,.slice none 0 0] 34 (0,0))) (hlo : Ve.heap.size ≤ rb) (hT : HQ0 T la n lc pa pl pc Rn) (h6 : T[6]? = some (.pointer (some ⟨rb,0,none⟩)))
   (K : ∀ T' V' sb,HQ0 T' la n lc pa pl pc Rn → T'[6]? = some (.pointer (some ⟨rb,0,none⟩)) → T'[7]? = some (.pointer (some ⟨sb,0,none⟩)) → QS Ve n la lc acts sb rb (tzero,[]) V' → To0 Try.prog Post Z V' (G ((base 20).at ⟨T',[]⟩ kt) cs0)) :
   To0 Try.prog Post Z V (G ((base 20).at ⟨T,[]⟩ (.code Q1n :: kt)) cs0):=by
 refine To0.walk (will_code (L:=Lone) (R:=fun a' V'=>HQ0 a'.tmps la n lc pa pl pc Rn ∧ a'.tmps[6]? = some (.pointer (some ⟨rb,0,none⟩)) ∧ ∃ sb,a'.tmps[7]? = some (.pointer (some ⟨sb,0,none⟩)) ∧ QS Ve n la lc acts sb rb (tzero,[]) V') calm rfl ⟨_,Try.func20⟩ rfl (by kernel_rfl) (fun τ=>?_) fun a' V' ⟨q0,q1,sb,q2,q3⟩ ha'=>Will.stop ?_)
 · obtain ⟨hs,t0,t1,t2⟩:=hT
   clear K
   have NW:=Lib.hid (show Calls Try.prog 75 #[.slice la n lc] (re V τ 0) fun e w'=>∃ p1  q1  r1  p2  q2  r2  p3  q3  r3  p4  q4  r4  p5  q5  r5,e = .returned (.agg #[.slice la n lc,.slice p1 q1 r1,.slice p2 q2 r2,.slice p3 q3 r3,.slice p4 q4 r4,.slice p5 q5 r5]) ∧ RS V n la lc acts (tzero,[]) (.agg #[.slice la n lc,.slice p1 q1 r1,.slice p2 q2 r2,.slice p3 q3 r3,.slice p4 q4 r4,.slice p5 q5 r5]) (norm w') from (new75 acts hn τ).mono fun e w' h=>by
     cases e with
     | returned v =>
       obtain ⟨p1,q1,r1,p2,q2,r2,p3,q3,r3,p4,q4,r4,p5,q5,r5,rfl⟩:=RS.six h
       exact ⟨_,_,_,_,_,_,_,_,_,_,_,_,_,_,_,rfl,h⟩
     | _=>exact h.elim)
   have HK:=Lib.hid (And.intro hk (And.intro hrb hlo))
   clear hk hrb hlo
   obtain ⟨f,hf,hT⟩:=array55f T hs
   have et0:=hf 0 _ t0
   have et1:=hf 1 _ t1
   have et2:=hf 2 _ t2
   have eh6:=hf 6 _ h6
   clear hf hs t0 t1 t2 h6
   subst hT
   simp only [et0,et1,et2,eh6]
   clear et0 et1 et2 eh6
   simp only [Q0n,Q1n,Q2n,Q3n,Q4n,Q5n,Q6n,Q7n,Q9n,Q10n,Q11n,Q12n,Q13n,Q14n,Q15n,Q16n,Q17n,PLq,QLq,SLq,X2q,X3q,B20,nva,nvb,nvk,nvl,Try.f20,Option.getD_some]
   go_wp2_with (first
     | (go_at_call 75
        refine NW.out.mono ?_
        rintro e w1 ⟨p1,q1,r1,p2,q2,r2,p3,q3,r3,p4,q4,r4,p5,q5,r5,rfl,H⟩
        replace H:=Lib.hid H))
   have RS1:=H.out
   obtain ⟨hk,hrb,hlo⟩:=HK.out
   have hrb1 : w1.heap[rb]? = some (.cells #[.slice none 0 0,.slice none 0 0,.slice none 0 0,.slice none 0 0,.slice none 0 0,.slice none 0 0] 34 (0,0)):=(RS1.kp.keep _ (Array.getElem?_eq_some_iff.1 hrb).1).trans hrb
   have hl1 : rb < w1.heap.size:=(Array.getElem?_eq_some_iff.1 hrb1).1
   have hl2 : Ve.heap.size ≤ w1.heap.size:=Nat.le_trans hk.size RS1.kp.size
   have RS2 : RS Ve n la lc acts (tzero,[]) (.agg #[.slice la n lc,.slice p1 q1 r1,.slice p2 q2 r2,.slice p3 q3 r3,.slice p4 q4 r4,.slice p5 q5 r5]) (norm w1):=RS1.back hk
   have ha : (w1.alloc (.cells #[.slice la n lc,.slice p1 q1 r1,.slice p2 q2 r2,.slice p3 q3 r3,.slice p4 q4 r4,.slice p5 q5 r5] 34)).heap[w1.heap.size]? = some (.cells #[.slice la n lc,.slice p1 q1 r1,.slice p2 q2 r2,.slice p3 q3 r3,.slice p4 q4 r4,.slice p5 q5 r5] 34 (0,0)):=by rw [alloc_get,if_pos rfl]
   have hA : ∀ b,b < w1.heap.size → (w1.alloc (.cells #[.slice la n lc,.slice p1 q1 r1,.slice p2 q2 r2,.slice p3 q3 r3,.slice p4 q4 r4,.slice p5 q5 r5] 34)).heap[b]? = w1.heap[b]?:=fun b hb=>by rw [alloc_get,if_neg (by omega)]
   have hz : w1.heap.size ≤ (w1.alloc (.cells #[.slice la n lc,.slice p1 q1 r1,.slice p2 q2 r2,.slice p3 q3 r3,.slice p4 q4 r4,.slice p5 q5 r5] 34)).heap.size:=by rw [alloc_size]; omega
   clear H NW RS1
   generalize (w1.alloc (.cells #[.slice la n lc,.slice p1 q1 r1,.slice p2 q2 r2,.slice p3 q3 r3,.slice p4 q4 r4,.slice p5 q5 r5] 34)) = A at *
   have RS3 : RS Ve n la lc acts (tzero,[]) (.agg #[.slice la n lc,.slice p1 q1 r1,.slice p2 q2 r2,.slice p3 q3 r3,.slice p4 q4 r4,.slice p5 q5 r5]) (norm A):=by
     have hko : Kp (norm w1) (norm A):=Kp.mk hz hA
     obtain ⟨nrm,kp,⟨av,ov,pv,odv,lgv,e,r1,r2,r3,r4,r5⟩,le,cnt⟩:=RS2
     exact ⟨rfl,kp.trans hko,⟨av,ov,pv,odv,lgv,e,row_keep r1 fun b h=>hko.keep b (row_at r1 h),row_keep r2 fun b h=>hko.keep b (row_at r2 h),row_keep r3 fun b h=>hko.keep b (row_at r3 h),row_keep r4 fun b h=>hko.keep b (row_at r4 h),row_keep r5 fun b h=>hko.keep b (row_at r5 h)⟩,le,cnt⟩
   refine ⟨⟨by simp,rfl,rfl,rfl⟩,⟨⟨_,RS3,ha⟩,(hA rb hl1).trans hrb1,hl2,hlo,by omega⟩⟩
 · obtain ⟨T',df⟩:=a'
   simp only at ha' q0 q1 q2
   subst ha'
   exact K T' V' sb q0 q1 q2 q3
theorem q_r2 (hn : norm V = V) (hT : HQ0 T la n lc pa pl pc Rn) (h6 : T[6]? = some (.pointer (some ⟨rb,0,none⟩))) (h7 : T[7]? = some (.pointer (some ⟨sb,0,none⟩)))
   (K : ∀ T',HQ T' pa pl pc Rn rb sb n → To0 Try.prog Post Z V (G ((base 20).at ⟨T',[]⟩ kt) cs0)) :
   To0 Try.prog Post Z V (G ((base 20).at ⟨T,[]⟩ (.code Q2n :: kt)) cs0):=by
 refine To0.walk (will_code (L:=Lone) (R:=fun a' V'=>V' = V ∧ HQ a'.tmps pa pl pc Rn rb sb n) calm rfl ⟨_,Try.func20⟩ rfl (by kernel_rfl) (fun τ=>?_) fun a' V' ⟨q0,q1⟩ ha'=>Will.stop ?_)
 · obtain ⟨hs,t0,t1,t2⟩:=hT
   clear K
   obtain ⟨f,hf,hT⟩:=array55f T hs
   have et0:=hf 0 _ t0
   have et1:=hf 1 _ t1
   have et2:=hf 2 _ t2
   have eh6:=hf 6 _ h6
   have eh7:=hf 7 _ h7
   clear hf hs t0 t1 t2 h6 h7
   subst hT
   simp only [et0,et1,et2,eh6,eh7]
   clear et0 et1 et2 eh6 eh7
   simp only [Q0n,Q1n,Q2n,Q3n,Q4n,Q5n,Q6n,Q7n,Q9n,Q10n,Q11n,Q12n,Q13n,Q14n,Q15n,Q16n,Q17n,PLq,QLq,SLq,X2q,X3q,B20,nva,nvb,nvk,nvl,Try.f20,Option.getD_some]
   go_wp2_with fail
   exact ⟨hn,⟨by simp,rfl,rfl,rfl,rfl,rfl⟩⟩
 · obtain ⟨T',df⟩:=a'
   simp only at ha' q1
   subst ha' q0
   exact K T' q1
end
section
variable {V : World} {Z : Cuts} {Post : Value → World → Prop} {n pl pc Rn sb rb : Nat} {pa : Option Addr} {c0 c1 c2 c3 c4 c5 : Value} {T : Array Value} {kt : List Item} {b₀ : Frame} {a₀ : Act} {ops₀ : Array Oper} {i₀ : Nat} {rest₀ : List Nat} {k₀ : List Item} {cs0 : List Frame}
theorem q_r17 (hc0 : ∃ a b c,c0 = .slice a b c) (hc1 : ∃ a b c,c1 = .slice a b c) (hc2 : ∃ a b c,c2 = .slice a b c) (hc3 : ∃ a b c,c3 = .slice a b c) (hc4 : ∃ a b c,c4 = .slice a b c) (hc5 : ∃ a b c,c5 = .slice a b c) (hn : norm V = V) (hne : sb ≠ rb) (hsb : V.heap[sb]? = some (.cells #[c0,c1,c2,c3,c4,c5] 34 (0,0))) (hrb : V.heap[rb]? = some (.cells #[.slice none 0 0,.slice none 0 0,.slice none 0 0,.slice none 0 0,.slice none 0 0,.slice none 0 0] 34 (0,0))) (hT : HQ T pa pl pc Rn rb sb n)
   (K : ∀ T',HQ T' pa pl pc Rn rb sb n → To0 Try.prog Post Z ((((((V.setCell ⟨rb,0,none⟩ c0).setCell ⟨rb,1,none⟩ c1).setCell ⟨rb,2,none⟩ c2).setCell ⟨rb,3,none⟩ c3).setCell ⟨rb,4,none⟩ c4).setCell ⟨rb,5,none⟩ c5) (G ((base 20).at ⟨T',[]⟩ kt) cs0)) :
   To0 Try.prog Post Z V (G ((base 20).at ⟨T,[]⟩ (.code Q17n :: kt)) cs0):=by
 refine To0.walk (will_code (L:=Lone) (R:=fun a' V'=>V' = ((((((V.setCell ⟨rb,0,none⟩ c0).setCell ⟨rb,1,none⟩ c1).setCell ⟨rb,2,none⟩ c2).setCell ⟨rb,3,none⟩ c3).setCell ⟨rb,4,none⟩ c4).setCell ⟨rb,5,none⟩ c5) ∧ HQ a'.tmps pa pl pc Rn rb sb n) calm rfl ⟨_,Try.func20⟩ rfl (by kernel_rfl) (fun τ=>?_) fun a' V' ⟨q0,q1⟩ ha'=>Will.stop ?_)
 · obtain ⟨hs,t1,t2,t6,t7,t8⟩:=hT
   obtain ⟨p0,q0,r0,rfl⟩:=hc0
   obtain ⟨p1,q1,r1,rfl⟩:=hc1
   obtain ⟨p2,q2,r2,rfl⟩:=hc2
   obtain ⟨p3,q3,r3,rfl⟩:=hc3
   obtain ⟨p4,q4,r4,rfl⟩:=hc4
   obtain ⟨p5,q5,r5,rfl⟩:=hc5
   have d0 : (re V τ 0).cell? ⟨sb,0,none⟩ = some (.slice p0 q0 r0):=cell_of hsb (by simp)
   have e0 : (re V τ 0).cell? ⟨rb,0,none⟩ = some (.slice none 0 0):=cell_of hrb (by simp)
   have z0 : (re V τ 0).frozen? ⟨rb,0,none⟩ = false:=by simp [World.frozen?,re,hrb]
   have d1 : (re V τ 0).cell? ⟨sb,1,none⟩ = some (.slice p1 q1 r1):=cell_of hsb (by simp)
   have e1 : (re V τ 0).cell? ⟨rb,1,none⟩ = some (.slice none 0 0):=cell_of hrb (by simp)
   have z1 : (re V τ 0).frozen? ⟨rb,1,none⟩ = false:=by simp [World.frozen?,re,hrb]
   have d2 : (re V τ 0).cell? ⟨sb,2,none⟩ = some (.slice p2 q2 r2):=cell_of hsb (by simp)
   have e2 : (re V τ 0).cell? ⟨rb,2,none⟩ = some (.slice none 0 0):=cell_of hrb (by simp)
   have z2 : (re V τ 0).frozen? ⟨rb,2,none⟩ = false:=by simp [World.frozen?,re,hrb]
   have d3 : (re V τ 0).cell? ⟨sb,3,none⟩ = some (.slice p3 q3 r3):=cell_of hsb (by simp)
   have e3 : (re V τ 0).cell? ⟨rb,3,none⟩ = some (.slice none 0 0):=cell_of hrb (by simp)
   have z3 : (re V τ 0).frozen? ⟨rb,3,none⟩ = false:=by simp [World.frozen?,re,hrb]
   have d4 : (re V τ 0).cell? ⟨sb,4,none⟩ = some (.slice p4 q4 r4):=cell_of hsb (by simp)
   have e4 : (re V τ 0).cell? ⟨rb,4,none⟩ = some (.slice none 0 0):=cell_of hrb (by simp)
   have z4 : (re V τ 0).frozen? ⟨rb,4,none⟩ = false:=by simp [World.frozen?,re,hrb]
   have d5 : (re V τ 0).cell? ⟨sb,5,none⟩ = some (.slice p5 q5 r5):=cell_of hsb (by simp)
   have e5 : (re V τ 0).cell? ⟨rb,5,none⟩ = some (.slice none 0 0):=cell_of hrb (by simp)
   have z5 : (re V τ 0).frozen? ⟨rb,5,none⟩ = false:=by simp [World.frozen?,re,hrb]
   clear K hsb hrb
   obtain ⟨f,hf,hT⟩:=array55f T hs
   have et1:=hf 1 _ t1
   have et2:=hf 2 _ t2
   have et6:=hf 6 _ t6
   have et7:=hf 7 _ t7
   have et8:=hf 8 _ t8
   clear hf hs t1 t2 t6 t7 t8
   subst hT
   simp only [et1,et2,et6,et7,et8]
   clear et1 et2 et6 et7 et8
   simp only [Q0n,Q1n,Q2n,Q3n,Q4n,Q5n,Q6n,Q7n,Q9n,Q10n,Q11n,Q12n,Q13n,Q14n,Q15n,Q16n,Q17n,PLq,QLq,SLq,X2q,X3q,B20,nva,nvb,nvk,nvl,Try.f20,Option.getD_some]
   go_wp2_with fail
   exact ⟨norm_set (norm_set (norm_set (norm_set (norm_set (norm_set hn _ _) _ _) _ _) _ _) _ _) _ _,⟨by simp,rfl,rfl,rfl,rfl,rfl⟩⟩
 · obtain ⟨T',df⟩:=a'
   simp only at ha' q1
   subst ha' q0
   exact K T' q1
theorem q_out (hc0 : ∃ a b c,c0 = .slice a b c) (hc1 : ∃ a b c,c1 = .slice a b c) (hc2 : ∃ a b c,c2 = .slice a b c) (hc3 : ∃ a b c,c3 = .slice a b c) (hc4 : ∃ a b c,c4 = .slice a b c) (hc5 : ∃ a b c,c5 = .slice a b c) (hn : norm V = V) (hrb : V.heap[rb]? = some (.cells #[c0,c1,c2,c3,c4,c5] 34 (0,0))) (t6 : T[6]? = some (.pointer (some ⟨rb,0,none⟩)))
   (K : To0 Try.prog Post Z V (G (b₀.at (a₀.put ((ops₀[i₀]?).bind (·.dst)) (.agg #[c0,c1,c2,c3,c4,c5])) (.inRegion ops₀ rest₀ :: k₀)) cs0)) :
   To0 Try.prog Post Z V (G ((base 20).at ⟨T,[]⟩ (.code .ret :: kt)) (b₀.at a₀ (.inRegion ops₀ (i₀ :: rest₀) :: k₀) :: cs0)):=by
 refine mu_ret mu_to0 ?_
 have hg : T.getD 6 undef = .pointer (some ⟨rb,0,none⟩):=by simp [Array.getD_eq_getD_getElem?,t6]
 refine To0.walk (will_leave (fn:=Try.f20) rfl rfl Try.func20 (v:=(.agg #[c0,c1,c2,c3,c4,c5])) (fun τ=>?_) (Will.stop ?_))
 · clear K
   obtain ⟨p0,q0,r0,rfl⟩:=hc0
   obtain ⟨p1,q1,r1,rfl⟩:=hc1
   obtain ⟨p2,q2,r2,rfl⟩:=hc2
   obtain ⟨p3,q3,r3,rfl⟩:=hc3
   obtain ⟨p4,q4,r4,rfl⟩:=hc4
   obtain ⟨p5,q5,r5,rfl⟩:=hc5
   have r_0 : (re V τ 0).cell? ⟨rb,0,none⟩ = some (.slice p0 q0 r0):=cell_of hrb (by simp)
   have r_1 : (re V τ 0).cell? ⟨rb,1,none⟩ = some (.slice p1 q1 r1):=cell_of hrb (by simp)
   have r_2 : (re V τ 0).cell? ⟨rb,2,none⟩ = some (.slice p2 q2 r2):=cell_of hrb (by simp)
   have r_3 : (re V τ 0).cell? ⟨rb,3,none⟩ = some (.slice p3 q3 r3):=cell_of hrb (by simp)
   have r_4 : (re V τ 0).cell? ⟨rb,4,none⟩ = some (.slice p4 q4 r4):=cell_of hrb (by simp)
   have r_5 : (re V τ 0).cell? ⟨rb,5,none⟩ = some (.slice p5 q5 r5):=cell_of hrb (by simp)
   simp only [results,Try.f20,List.mapM_toArray,List.mapM_cons,List.mapM_nil,Sem.run_bind,hg]
   go_simp
 · rw [Frame.finish_at]
   exact K
end
end Go.Proofs.Ytibcdikfbhmheaa
