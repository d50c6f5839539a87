import Derived.Test.YtibcdikfbhmheaaQD01
import Derived.Test.YtibcdikfbhmheaaB15
set_option linter.unusedSimpArgs false
set_option linter.unusedVariables false
set_option maxRecDepth 100000
set_option maxHeartbeats 4000000
namespace Go.Proofs.Ytibcdikfbhmheaa
open Go Go.Conc Go.Proofs
open Go.ConcN (sumTo upd sumTo_upd upd_ne upd_same)
set_option linter.unusedVariables false
noncomputable def R10n : Code:=nva TY
noncomputable def W1n : Code:=nva (nvb TY)
noncomputable def W2n : Code:=nva (nvb (nvb TY))
noncomputable def W3n : Code:=nva (nvb (nvb (nvb TY)))
noncomputable def F17n : Code:=nvb (nvb (nvb (nvb TY)))
section
variable {V : World} {Z : Cuts} {Post : Value → World → Prop} {n i sb rb ga go gp ca oc pc tb p : Nat} {d y : Int} {T : Array Value} {kt : List Item} {cs0 : List Frame}
theorem t_r10 (hn : norm V = V) (hi : i < n) (hp : p < 1000000000) (hc : V.cell? ⟨ga,i,none⟩ = some (.int .i64 (p : Int))) (hz : V.frozen? ⟨ga,i,none⟩ = false) (hT : HT9 T i sb rb (.slice (some ⟨ga,0,none⟩) n ca) (.slice (some ⟨go,0,none⟩) n oc) (.slice (some ⟨gp,0,none⟩) n pc)) (h8 : T[8]? = some (.pointer (some ⟨tb,0,none⟩)))
   (K : ∀ T',HT9 T' i sb rb (.slice (some ⟨ga,0,none⟩) n ca) (.slice (some ⟨go,0,none⟩) n oc) (.slice (some ⟨gp,0,none⟩) n pc) → T'[8]? = some (.pointer (some ⟨tb,0,none⟩)) → To0 Try.prog Post Z (V.setCell ⟨ga,i,none⟩ (.int .i64 (p + 1 : Nat))) (G ((base 76).at ⟨T',[]⟩ kt) cs0)) :
   To0 Try.prog Post Z V (G ((base 76).at ⟨T,[]⟩ (.code R10n :: kt)) cs0):=by
 refine To0.walk (will_code (L:=Lone) (R:=fun a' V'=>V' = (V.setCell ⟨ga,i,none⟩ (.int .i64 (p + 1 : Nat))) ∧ HT9 a'.tmps i sb rb (.slice (some ⟨ga,0,none⟩) n ca) (.slice (some ⟨go,0,none⟩) n oc) (.slice (some ⟨gp,0,none⟩) n pc) ∧ a'.tmps[8]? = some (.pointer (some ⟨tb,0,none⟩))) calm rfl ⟨_,Try.func76⟩ rfl (by kernel_rfl) (fun τ=>?_) fun a' V' ⟨q0,q1,q2⟩ ha'=>Will.stop ?_)
 · obtain ⟨hs,t1,t2,t4,t5,t6,t7⟩:=hT
   have q1 : ¬ ((i : Int) < 0):=by omega
   have q2 : ¬ ((n : Int) ≤ (i : Int)):=by omega
   have c1 : (re V τ 0).cell? ⟨ga,i,none⟩ = some (.int .i64 (p : Int)):=hc
   have z1 : (re V τ 0).frozen? ⟨ga,i,none⟩ = false:=hz
   have w1 : IntKind.i64.wrap ((p : Int) + 1) = ((p + 1 : Nat) : Int):=by rw [IntKind.wrap_i64]; omega
   clear hc hz
   clear K
   obtain ⟨f,hf,hT⟩:=array150f T hs
   have et1:=hf 1 _ t1
   have et2:=hf 2 _ t2
   have et4:=hf 4 _ t4
   have et5:=hf 5 _ t5
   have et6:=hf 6 _ t6
   have et7:=hf 7 _ t7
   have eh8:=hf 8 _ h8
   clear hf hs t1 t2 t4 t5 t6 t7 h8
   subst hT
   simp only [et1,et2,et4,et5,et6,et7,eh8]
   clear et1 et2 et4 et5 et6 et7 eh8
   simp only [R10n,W1n,W2n,W3n,F17n,R8t,R9t,TY,T1t,TL,TZ,X6t,B76,nva,nvb,nvk,nvl,Try.f76,Option.getD_some]
   go_wp2_with fail
   exact ⟨norm_set hn _ _,⟨by simp,rfl,rfl,rfl,rfl,rfl,rfl⟩⟩
 · obtain ⟨T',df⟩:=a'
   simp only at ha' q1 q2
   subst ha' q0
   exact K T' q1 q2
theorem t_wy (hn : norm V = V) (hi : i < n) (hc0 : V.cell? ⟨tb,0,none⟩ = some (.int .i64 2)) (hc1 : V.cell? ⟨tb,1,none⟩ = some (.int .i64 (p : Int))) (hpn : p < n) {bv : Bool} (hb : V.cell? ⟨gp,p,none⟩ = some (.bool bv)) (hz : V.frozen? ⟨gp,p,none⟩ = false) (hT : HT9 T i sb rb (.slice (some ⟨ga,0,none⟩) n ca) (.slice (some ⟨go,0,none⟩) n oc) (.slice (some ⟨gp,0,none⟩) n pc)) (h8 : T[8]? = some (.pointer (some ⟨tb,0,none⟩)))
   (K : ∀ T',HT9 T' i sb rb (.slice (some ⟨ga,0,none⟩) n ca) (.slice (some ⟨go,0,none⟩) n oc) (.slice (some ⟨gp,0,none⟩) n pc) → T'[8]? = some (.pointer (some ⟨tb,0,none⟩)) → To0 Try.prog Post Z (V.setCell ⟨gp,p,none⟩ (.bool false)) (G ((base 76).at ⟨T',[]⟩ kt) cs0)) :
   To0 Try.prog Post Z V (G ((base 76).at ⟨T,[]⟩ (.code W1n :: kt)) cs0):=by
 refine To0.walk (will_code (L:=Lone) (R:=fun a' V'=>V' = (V.setCell ⟨gp,p,none⟩ (.bool false)) ∧ HT9 a'.tmps i sb rb (.slice (some ⟨ga,0,none⟩) n ca) (.slice (some ⟨go,0,none⟩) n oc) (.slice (some ⟨gp,0,none⟩) n pc) ∧ a'.tmps[8]? = some (.pointer (some ⟨tb,0,none⟩))) calm rfl ⟨_,Try.func76⟩ rfl (by kernel_rfl) (fun τ=>?_) fun a' V' ⟨q0,q1,q2⟩ ha'=>Will.stop ?_)
 · obtain ⟨hs,t1,t2,t4,t5,t6,t7⟩:=hT
   have q1 : ¬ ((i : Int) < 0):=by omega
   have q2 : ¬ ((n : Int) ≤ (i : Int)):=by omega
   have c0 : (re V τ 0).cell? ⟨tb,0,none⟩ = some (.int .i64 2):=hc0
   have c1 : (re V τ 0).cell? ⟨tb,1,none⟩ = some (.int .i64 (p : Int)):=hc1
   clear hc0 hc1
   have e2 : decide ((0 : Int) ≤ (p : Int)) = true:=decide_eq_true (by omega)
   have e3 : decide ((p : Int) < (n : Int)) = true:=decide_eq_true (by omega)
   have q3 : ¬ ((p : Int) < 0):=by omega
   have q4 : ¬ ((n : Int) ≤ (p : Int)):=by omega
   have z1 : (re V τ 0).frozen? ⟨gp,p,none⟩ = false:=hz
   have b1 : (re V τ 0).cell? ⟨gp,p,none⟩ = some (.bool bv):=hb
   clear hz hb
   clear K
   obtain ⟨f,hf,hT⟩:=array150f T hs
   have et1:=hf 1 _ t1
   have et2:=hf 2 _ t2
   have et4:=hf 4 _ t4
   have et5:=hf 5 _ t5
   have et6:=hf 6 _ t6
   have et7:=hf 7 _ t7
   have eh8:=hf 8 _ h8
   clear hf hs t1 t2 t4 t5 t6 t7 h8
   subst hT
   simp only [et1,et2,et4,et5,et6,et7,eh8]
   clear et1 et2 et4 et5 et6 et7 eh8
   simp only [R10n,W1n,W2n,W3n,F17n,R8t,R9t,TY,T1t,TL,TZ,X6t,B76,nva,nvb,nvk,nvl,Try.f76,Option.getD_some]
   go_wp2_with fail
   exact ⟨norm_set hn _ _,⟨by simp,rfl,rfl,rfl,rfl,rfl,rfl⟩⟩
 · obtain ⟨T',df⟩:=a'
   simp only at ha' q1 q2
   subst ha' q0
   exact K T' q1 q2
theorem t_wn (hn : norm V = V) (hi : i < n) (hc0 : V.cell? ⟨tb,0,none⟩ = some (.int .i64 d)) (hc1 : V.cell? ⟨tb,1,none⟩ = some (.int .i64 y)) (hno : ¬ (d = 2 ∧ 0 ≤ y ∧ y < (n : Int))) (hT : HT9 T i sb rb (.slice (some ⟨ga,0,none⟩) n ca) (.slice (some ⟨go,0,none⟩) n oc) (.slice (some ⟨gp,0,none⟩) n pc)) (h8 : T[8]? = some (.pointer (some ⟨tb,0,none⟩)))
   (K : ∀ T',HT9 T' i sb rb (.slice (some ⟨ga,0,none⟩) n ca) (.slice (some ⟨go,0,none⟩) n oc) (.slice (some ⟨gp,0,none⟩) n pc) → T'[8]? = some (.pointer (some ⟨tb,0,none⟩)) → To0 Try.prog Post Z V (G ((base 76).at ⟨T',[]⟩ kt) cs0)) :
   To0 Try.prog Post Z V (G ((base 76).at ⟨T,[]⟩ (.code W1n :: kt)) cs0):=by
 refine To0.walk (will_code (L:=Lone) (R:=fun a' V'=>V' = V ∧ HT9 a'.tmps i sb rb (.slice (some ⟨ga,0,none⟩) n ca) (.slice (some ⟨go,0,none⟩) n oc) (.slice (some ⟨gp,0,none⟩) n pc) ∧ a'.tmps[8]? = some (.pointer (some ⟨tb,0,none⟩))) calm rfl ⟨_,Try.func76⟩ rfl (by kernel_rfl) (fun τ=>?_) fun a' V' ⟨q0,q1,q2⟩ ha'=>Will.stop ?_)
 · obtain ⟨hs,t1,t2,t4,t5,t6,t7⟩:=hT
   have q1 : ¬ ((i : Int) < 0):=by omega
   have q2 : ¬ ((n : Int) ≤ (i : Int)):=by omega
   have c0 : (re V τ 0).cell? ⟨tb,0,none⟩ = some (.int .i64 d):=hc0
   have c1 : (re V τ 0).cell? ⟨tb,1,none⟩ = some (.int .i64 y):=hc1
   clear hc0 hc1
   have hdd : (d == 2) = decide (d = 2):=by by_cases h : d = 2 <;> simp [h]
   have key : (decide (d = 2) && decide (0 ≤ y) && decide (y < (n : Int))) = false:=by
     by_cases h1 : d = 2 <;> by_cases h2 : 0 ≤ y <;> by_cases h3 : y < (n : Int) <;> simp [h1,h2,h3]
     exact hno ⟨h1,h2,h3⟩
   have hcases : (d == 2) = false ∨ ((d == 2) = true ∧ decide (0 ≤ y) = false) ∨ ((d == 2) = true ∧ decide (0 ≤ y) = true ∧ decide (y < (n : Int)) = false):=by
     by_cases h1 : d = 2
     · by_cases h2 : 0 ≤ y
       · right; right; exact ⟨by simp [h1],by simp [h2],by simp; exact Int.not_lt.1 fun h3=>hno ⟨h1,h2,h3⟩⟩
       · right; left; exact ⟨by simp [h1],by simp; omega⟩
     · left; simp [h1]
   clear key hdd
   clear K
   obtain ⟨f,hf,hT⟩:=array150f T hs
   have et1:=hf 1 _ t1
   have et2:=hf 2 _ t2
   have et4:=hf 4 _ t4
   have et5:=hf 5 _ t5
   have et6:=hf 6 _ t6
   have et7:=hf 7 _ t7
   have eh8:=hf 8 _ h8
   clear hf hs t1 t2 t4 t5 t6 t7 h8
   subst hT
   simp only [et1,et2,et4,et5,et6,et7,eh8]
   clear et1 et2 et4 et5 et6 et7 eh8
   simp only [R10n,W1n,W2n,W3n,F17n,R8t,R9t,TY,T1t,TL,TZ,X6t,B76,nva,nvb,nvk,nvl,Try.f76,Option.getD_some]
   rcases hcases with e1 | ⟨e1,e2⟩ | ⟨e1,e2,e3⟩
   all_goals (go_wp2_with fail; exact ⟨hn,⟨by simp,rfl,rfl,rfl,rfl,rfl,rfl⟩⟩)
 · obtain ⟨T',df⟩:=a'
   simp only at ha' q1 q2
   subst ha' q0
   exact K T' q1 q2
theorem t_py (hn : norm V = V) (hi : i < n) (hc0 : V.cell? ⟨tb,0,none⟩ = some (.int .i64 1)) {bv : Bool} (hb : V.cell? ⟨gp,i,none⟩ = some (.bool bv)) (hz : V.frozen? ⟨gp,i,none⟩ = false) (hT : HT9 T i sb rb (.slice (some ⟨ga,0,none⟩) n ca) (.slice (some ⟨go,0,none⟩) n oc) (.slice (some ⟨gp,0,none⟩) n pc)) (h8 : T[8]? = some (.pointer (some ⟨tb,0,none⟩)))
   (K : ∀ T',HT9 T' i sb rb (.slice (some ⟨ga,0,none⟩) n ca) (.slice (some ⟨go,0,none⟩) n oc) (.slice (some ⟨gp,0,none⟩) n pc) → T'[8]? = some (.pointer (some ⟨tb,0,none⟩)) → To0 Try.prog Post Z (V.setCell ⟨gp,i,none⟩ (.bool true)) (G ((base 76).at ⟨T',[]⟩ kt) cs0)) :
   To0 Try.prog Post Z V (G ((base 76).at ⟨T,[]⟩ (.code W2n :: kt)) cs0):=by
 refine To0.walk (will_code (L:=Lone) (R:=fun a' V'=>V' = (V.setCell ⟨gp,i,none⟩ (.bool true)) ∧ HT9 a'.tmps i sb rb (.slice (some ⟨ga,0,none⟩) n ca) (.slice (some ⟨go,0,none⟩) n oc) (.slice (some ⟨gp,0,none⟩) n pc) ∧ a'.tmps[8]? = some (.pointer (some ⟨tb,0,none⟩))) calm rfl ⟨_,Try.func76⟩ rfl (by kernel_rfl) (fun τ=>?_) fun a' V' ⟨q0,q1,q2⟩ ha'=>Will.stop ?_)
 · obtain ⟨hs,t1,t2,t4,t5,t6,t7⟩:=hT
   have q1 : ¬ ((i : Int) < 0):=by omega
   have q2 : ¬ ((n : Int) ≤ (i : Int)):=by omega
   have c0 : (re V τ 0).cell? ⟨tb,0,none⟩ = some (.int .i64 1):=hc0
   clear hc0
   have z1 : (re V τ 0).frozen? ⟨gp,i,none⟩ = false:=hz
   have b1 : (re V τ 0).cell? ⟨gp,i,none⟩ = some (.bool bv):=hb
   clear hz hb
   clear K
   obtain ⟨f,hf,hT⟩:=array150f T hs
   have et1:=hf 1 _ t1
   have et2:=hf 2 _ t2
   have et4:=hf 4 _ t4
   have et5:=hf 5 _ t5
   have et6:=hf 6 _ t6
   have et7:=hf 7 _ t7
   have eh8:=hf 8 _ h8
   clear hf hs t1 t2 t4 t5 t6 t7 h8
   subst hT
   simp only [et1,et2,et4,et5,et6,et7,eh8]
   clear et1 et2 et4 et5 et6 et7 eh8
   simp only [R10n,W1n,W2n,W3n,F17n,R8t,R9t,TY,T1t,TL,TZ,X6t,B76,nva,nvb,nvk,nvl,Try.f76,Option.getD_some]
   go_wp2_with fail
   exact ⟨norm_set hn _ _,⟨by simp,rfl,rfl,rfl,rfl,rfl,rfl⟩⟩
 · obtain ⟨T',df⟩:=a'
   simp only at ha' q1 q2
   subst ha' q0
   exact K T' q1 q2
theorem t_pn (hn : norm V = V) (hi : i < n) (hc0 : V.cell? ⟨tb,0,none⟩ = some (.int .i64 d)) (hno : d ≠ 1) (hT : HT9 T i sb rb (.slice (some ⟨ga,0,none⟩) n ca) (.slice (some ⟨go,0,none⟩) n oc) (.slice (some ⟨gp,0,none⟩) n pc)) (h8 : T[8]? = some (.pointer (some ⟨tb,0,none⟩)))
   (K : ∀ T',HT9 T' i sb rb (.slice (some ⟨ga,0,none⟩) n ca) (.slice (some ⟨go,0,none⟩) n oc) (.slice (some ⟨gp,0,none⟩) n pc) → T'[8]? = some (.pointer (some ⟨tb,0,none⟩)) → To0 Try.prog Post Z V (G ((base 76).at ⟨T',[]⟩ kt) cs0)) :
   To0 Try.prog Post Z V (G ((base 76).at ⟨T,[]⟩ (.code W2n :: kt)) cs0):=by
 refine To0.walk (will_code (L:=Lone) (R:=fun a' V'=>V' = V ∧ HT9 a'.tmps i sb rb (.slice (some ⟨ga,0,none⟩) n ca) (.slice (some ⟨go,0,none⟩) n oc) (.slice (some ⟨gp,0,none⟩) n pc) ∧ a'.tmps[8]? = some (.pointer (some ⟨tb,0,none⟩))) calm rfl ⟨_,Try.func76⟩ rfl (by kernel_rfl) (fun τ=>?_) fun a' V' ⟨q0,q1,q2⟩ ha'=>Will.stop ?_)
 · obtain ⟨hs,t1,t2,t4,t5,t6,t7⟩:=hT
   have q1 : ¬ ((i : Int) < 0):=by omega
   have q2 : ¬ ((n : Int) ≤ (i : Int)):=by omega
   have c0 : (re V τ 0).cell? ⟨tb,0,none⟩ = some (.int .i64 d):=hc0
   clear hc0
   have e1 : (d == 1) = false:=by simp [hno]
   clear K
   obtain ⟨f,hf,hT⟩:=array150f T hs
   have et1:=hf 1 _ t1
   have et2:=hf 2 _ t2
   have et4:=hf 4 _ t4
   have et5:=hf 5 _ t5
   have et6:=hf 6 _ t6
   have et7:=hf 7 _ t7
   have eh8:=hf 8 _ h8
   clear hf hs t1 t2 t4 t5 t6 t7 h8
   subst hT
   simp only [et1,et2,et4,et5,et6,et7,eh8]
   clear et1 et2 et4 et5 et6 et7 eh8
   simp only [R10n,W1n,W2n,W3n,F17n,R8t,R9t,TY,T1t,TL,TZ,X6t,B76,nva,nvb,nvk,nvl,Try.f76,Option.getD_some]
   go_wp2_with fail
   exact ⟨hn,⟨by simp,rfl,rfl,rfl,rfl,rfl,rfl⟩⟩
 · obtain ⟨T',df⟩:=a'
   simp only at ha' q1 q2
   subst ha' q0
   exact K T' q1 q2
theorem t_oy (hn : norm V = V) (hi : i < n) (hc0 : V.cell? ⟨tb,0,none⟩ = some (.int .i64 d)) (hd : d = 4 ∨ d = 5) {bv : Bool} (hb : V.cell? ⟨go,i,none⟩ = some (.bool bv)) (hz : V.frozen? ⟨go,i,none⟩ = false) (hT : HT9 T i sb rb (.slice (some ⟨ga,0,none⟩) n ca) (.slice (some ⟨go,0,none⟩) n oc) (.slice (some ⟨gp,0,none⟩) n pc)) (h8 : T[8]? = some (.pointer (some ⟨tb,0,none⟩)))
   (K : ∀ T',HT9 T' i sb rb (.slice (some ⟨ga,0,none⟩) n ca) (.slice (some ⟨go,0,none⟩) n oc) (.slice (some ⟨gp,0,none⟩) n pc) → T'[8]? = some (.pointer (some ⟨tb,0,none⟩)) → To0 Try.prog Post Z (V.setCell ⟨go,i,none⟩ (.bool true)) (G ((base 76).at ⟨T',[]⟩ kt) cs0)) :
   To0 Try.prog Post Z V (G ((base 76).at ⟨T,[]⟩ (.code W3n :: kt)) cs0):=by
 refine To0.walk (will_code (L:=Lone) (R:=fun a' V'=>V' = (V.setCell ⟨go,i,none⟩ (.bool true)) ∧ HT9 a'.tmps i sb rb (.slice (some ⟨ga,0,none⟩) n ca) (.slice (some ⟨go,0,none⟩) n oc) (.slice (some ⟨gp,0,none⟩) n pc) ∧ a'.tmps[8]? = some (.pointer (some ⟨tb,0,none⟩))) calm rfl ⟨_,Try.func76⟩ rfl (by kernel_rfl) (fun τ=>?_) fun a' V' ⟨q0,q1,q2⟩ ha'=>Will.stop ?_)
 · obtain ⟨hs,t1,t2,t4,t5,t6,t7⟩:=hT
   have q1 : ¬ ((i : Int) < 0):=by omega
   have q2 : ¬ ((n : Int) ≤ (i : Int)):=by omega
   have c0 : (re V τ 0).cell? ⟨tb,0,none⟩ = some (.int .i64 d):=hc0
   clear hc0
   have z1 : (re V τ 0).frozen? ⟨go,i,none⟩ = false:=hz
   have b1 : (re V τ 0).cell? ⟨go,i,none⟩ = some (.bool bv):=hb
   clear hz hb
   clear K
   obtain ⟨f,hf,hT⟩:=array150f T hs
   have et1:=hf 1 _ t1
   have et2:=hf 2 _ t2
   have et4:=hf 4 _ t4
   have et5:=hf 5 _ t5
   have et6:=hf 6 _ t6
   have et7:=hf 7 _ t7
   have eh8:=hf 8 _ h8
   clear hf hs t1 t2 t4 t5 t6 t7 h8
   subst hT
   simp only [et1,et2,et4,et5,et6,et7,eh8]
   clear et1 et2 et4 et5 et6 et7 eh8
   simp only [R10n,W1n,W2n,W3n,F17n,R8t,R9t,TY,T1t,TL,TZ,X6t,B76,nva,nvb,nvk,nvl,Try.f76,Option.getD_some]
   rcases hd with rfl | rfl
   all_goals (go_wp2_with fail; exact ⟨norm_set hn _ _,⟨by simp,rfl,rfl,rfl,rfl,rfl,rfl⟩⟩)
 · obtain ⟨T',df⟩:=a'
   simp only at ha' q1 q2
   subst ha' q0
   exact K T' q1 q2
theorem t_on (hn : norm V = V) (hi : i < n) (hc0 : V.cell? ⟨tb,0,none⟩ = some (.int .i64 d)) (hno : ¬ (d = 4 ∨ d = 5)) (hT : HT9 T i sb rb (.slice (some ⟨ga,0,none⟩) n ca) (.slice (some ⟨go,0,none⟩) n oc) (.slice (some ⟨gp,0,none⟩) n pc)) (h8 : T[8]? = some (.pointer (some ⟨tb,0,none⟩)))
   (K : ∀ T',HT9 T' i sb rb (.slice (some ⟨ga,0,none⟩) n ca) (.slice (some ⟨go,0,none⟩) n oc) (.slice (some ⟨gp,0,none⟩) n pc) → T'[8]? = some (.pointer (some ⟨tb,0,none⟩)) → To0 Try.prog Post Z V (G ((base 76).at ⟨T',[]⟩ kt) cs0)) :
   To0 Try.prog Post Z V (G ((base 76).at ⟨T,[]⟩ (.code W3n :: kt)) cs0):=by
 refine To0.walk (will_code (L:=Lone) (R:=fun a' V'=>V' = V ∧ HT9 a'.tmps i sb rb (.slice (some ⟨ga,0,none⟩) n ca) (.slice (some ⟨go,0,none⟩) n oc) (.slice (some ⟨gp,0,none⟩) n pc) ∧ a'.tmps[8]? = some (.pointer (some ⟨tb,0,none⟩))) calm rfl ⟨_,Try.func76⟩ rfl (by kernel_rfl) (fun τ=>?_) fun a' V' ⟨q0,q1,q2⟩ ha'=>Will.stop ?_)
 · obtain ⟨hs,t1,t2,t4,t5,t6,t7⟩:=hT
   have q1 : ¬ ((i : Int) < 0):=by omega
   have q2 : ¬ ((n : Int) ≤ (i : Int)):=by omega
   have c0 : (re V τ 0).cell? ⟨tb,0,none⟩ = some (.int .i64 d):=hc0
   clear hc0
   have e1 : (d == 4) = false:=by simp; omega
   have e2 : (d == 5) = false:=by simp; omega
   clear K
   obtain ⟨f,hf,hT⟩:=array150f T hs
   have et1:=hf 1 _ t1
   have et2:=hf 2 _ t2
   have et4:=hf 4 _ t4
   have et5:=hf 5 _ t5
   have et6:=hf 6 _ t6
   have et7:=hf 7 _ t7
   have eh8:=hf 8 _ h8
   clear hf hs t1 t2 t4 t5 t6 t7 h8
   subst hT
   simp only [et1,et2,et4,et5,et6,et7,eh8]
   clear et1 et2 et4 et5 et6 et7 eh8
   simp only [R10n,W1n,W2n,W3n,F17n,R8t,R9t,TY,T1t,TL,TZ,X6t,B76,nva,nvb,nvk,nvl,Try.f76,Option.getD_some]
   go_wp2_with fail
   exact ⟨hn,⟨by simp,rfl,rfl,rfl,rfl,rfl,rfl⟩⟩
 · obtain ⟨T',df⟩:=a'
   simp only at ha' q1 q2
   subst ha' q0
   exact K T' q1 q2
end
end Go.Proofs.Ytibcdikfbhmheaa

namespace Go.Proofs.Ytibcdikfbhmheaa
open Go Go.Conc Go.Proofs
open Go.ConcN (sumTo upd sumTo_upd upd_ne upd_same)
set_option linter.unusedVariables false
def nvc2 : Code → Code | .cond _ x _=>x | c=>c
noncomputable def R18n : Code:=nva (nvc2 (nvb F17n))
noncomputable def R19n : Code:=nva (nvb (nvc2 (nvb F17n)))
noncomputable def R20n : Code:=nva TZ
noncomputable def R21n : Code:=nva (nvb TZ)
noncomputable def R22n : Code:=nva (nvb (nvb TZ))
section
variable {V : World} {Z : Cuts} {Post : Value → World → Prop} {n lc i sb rb ga go gp ca oc pc tb p : Nat} {la : Option Addr} {av0 ov0 pv0 odv lgv : Value} {d y : Int} {T : Array Value} {kt : List Item} {cs0 : List Frame}
theorem t_r18 (hn : norm V = V) (hsb : V.heap[sb]? = some (.cells #[.slice la n lc,av0,ov0,pv0,odv,lgv] 34 (0,0))) (h1 : ∃ a b c,av0 = .slice a b c) (h2 : ∃ a b c,ov0 = .slice a b c) (h3 : ∃ a b c,pv0 = .slice a b c) (hT : HT9 T i sb rb (.slice (some ⟨ga,0,none⟩) n ca) (.slice (some ⟨go,0,none⟩) n oc) (.slice (some ⟨gp,0,none⟩) n pc))
   (K : ∀ T',HT9 T' i sb rb (.slice (some ⟨ga,0,none⟩) n ca) (.slice (some ⟨go,0,none⟩) n oc) (.slice (some ⟨gp,0,none⟩) n pc) → To0 Try.prog Post Z (((V.setCell ⟨sb,1,none⟩ (.slice (some ⟨ga,0,none⟩) n ca)).setCell ⟨sb,2,none⟩ (.slice (some ⟨go,0,none⟩) n oc)).setCell ⟨sb,3,none⟩ (.slice (some ⟨gp,0,none⟩) n pc)) (G ((base 76).at ⟨T',[]⟩ kt) cs0)) :
   To0 Try.prog Post Z V (G ((base 76).at ⟨T,[]⟩ (.code R18n :: kt)) cs0):=by
 refine To0.walk (will_code (L:=Lone) (R:=fun a' V'=>V' = (((V.setCell ⟨sb,1,none⟩ (.slice (some ⟨ga,0,none⟩) n ca)).setCell ⟨sb,2,none⟩ (.slice (some ⟨go,0,none⟩) n oc)).setCell ⟨sb,3,none⟩ (.slice (some ⟨gp,0,none⟩) n pc)) ∧ HT9 a'.tmps i sb rb (.slice (some ⟨ga,0,none⟩) n ca) (.slice (some ⟨go,0,none⟩) n oc) (.slice (some ⟨gp,0,none⟩) n pc)) calm rfl ⟨_,Try.func76⟩ rfl (by kernel_rfl) (fun τ=>?_) fun a' V' ⟨q0,q1⟩ ha'=>Will.stop ?_)
 · obtain ⟨hs,t1,t2,t4,t5,t6,t7⟩:=hT
   obtain ⟨x1,x2,x3,rfl⟩:=h1
   obtain ⟨y1,y2,y3,rfl⟩:=h2
   obtain ⟨u1,u2,u3,rfl⟩:=h3
   have c1 : (re V τ 0).cell? ⟨sb,1,none⟩ = some (.slice x1 x2 x3):=cell_of hsb (by simp)
   have c2 : (re V τ 0).cell? ⟨sb,2,none⟩ = some (.slice y1 y2 y3):=cell_of hsb (by simp)
   have c3 : (re V τ 0).cell? ⟨sb,3,none⟩ = some (.slice u1 u2 u3):=cell_of hsb (by simp)
   have z1 : (re V τ 0).frozen? ⟨sb,1,none⟩ = false:=by simp [World.frozen?,re,hsb]
   have z2 : (re V τ 0).frozen? ⟨sb,2,none⟩ = false:=by simp [World.frozen?,re,hsb]
   have z3 : (re V τ 0).frozen? ⟨sb,3,none⟩ = false:=by simp [World.frozen?,re,hsb]
   clear hsb
   clear K
   obtain ⟨f,hf,hT⟩:=array150f T hs
   have et1:=hf 1 _ t1
   have et2:=hf 2 _ t2
   have et4:=hf 4 _ t4
   have et5:=hf 5 _ t5
   have et6:=hf 6 _ t6
   have et7:=hf 7 _ t7
   clear hf hs t1 t2 t4 t5 t6 t7
   subst hT
   simp only [et1,et2,et4,et5,et6,et7]
   clear et1 et2 et4 et5 et6 et7
   simp only [nvc2,R18n,R19n,R20n,R21n,R22n,R10n,W1n,W2n,W3n,F17n,R8t,R9t,TY,T1t,TL,TZ,X6t,B76,nva,nvb,nvk,nvl,Try.f76,Option.getD_some]
   go_wp2_with fail
   exact ⟨norm_set (norm_set (norm_set hn _ _) _ _) _ _,⟨by simp,rfl,rfl,rfl,rfl,rfl,rfl⟩⟩
 · obtain ⟨T',df⟩:=a'
   simp only at ha' q1
   subst ha' q0
   exact K T' q1
theorem t_r21 (hn : norm V = V) (hsb : V.heap[sb]? = some (.cells #[.slice la n lc,av0,ov0,pv0,odv,lgv] 34 (0,0))) (h1 : ∃ a b c,av0 = .slice a b c) (h2 : ∃ a b c,ov0 = .slice a b c) (h3 : ∃ a b c,pv0 = .slice a b c) (hT : HT9 T i sb rb (.slice (some ⟨ga,0,none⟩) n ca) (.slice (some ⟨go,0,none⟩) n oc) (.slice (some ⟨gp,0,none⟩) n pc))
   (K : ∀ T',HT9 T' i sb rb (.slice (some ⟨ga,0,none⟩) n ca) (.slice (some ⟨go,0,none⟩) n oc) (.slice (some ⟨gp,0,none⟩) n pc) → To0 Try.prog Post Z (((V.setCell ⟨sb,1,none⟩ (.slice (some ⟨ga,0,none⟩) n ca)).setCell ⟨sb,2,none⟩ (.slice (some ⟨go,0,none⟩) n oc)).setCell ⟨sb,3,none⟩ (.slice (some ⟨gp,0,none⟩) n pc)) (G ((base 76).at ⟨T',[]⟩ kt) cs0)) :
   To0 Try.prog Post Z V (G ((base 76).at ⟨T,[]⟩ (.code R21n :: kt)) cs0):=by
 refine To0.walk (will_code (L:=Lone) (R:=fun a' V'=>V' = (((V.setCell ⟨sb,1,none⟩ (.slice (some ⟨ga,0,none⟩) n ca)).setCell ⟨sb,2,none⟩ (.slice (some ⟨go,0,none⟩) n oc)).setCell ⟨sb,3,none⟩ (.slice (some ⟨gp,0,none⟩) n pc)) ∧ HT9 a'.tmps i sb rb (.slice (some ⟨ga,0,none⟩) n ca) (.slice (some ⟨go,0,none⟩) n oc) (.slice (some ⟨gp,0,none⟩) n pc)) calm rfl ⟨_,Try.func76⟩ rfl (by kernel_rfl) (fun τ=>?_) fun a' V' ⟨q0,q1⟩ ha'=>Will.stop ?_)
 · obtain ⟨hs,t1,t2,t4,t5,t6,t7⟩:=hT
   obtain ⟨x1,x2,x3,rfl⟩:=h1
   obtain ⟨y1,y2,y3,rfl⟩:=h2
   obtain ⟨u1,u2,u3,rfl⟩:=h3
   have c1 : (re V τ 0).cell? ⟨sb,1,none⟩ = some (.slice x1 x2 x3):=cell_of hsb (by simp)
   have c2 : (re V τ 0).cell? ⟨sb,2,none⟩ = some (.slice y1 y2 y3):=cell_of hsb (by simp)
   have c3 : (re V τ 0).cell? ⟨sb,3,none⟩ = some (.slice u1 u2 u3):=cell_of hsb (by simp)
   have z1 : (re V τ 0).frozen? ⟨sb,1,none⟩ = false:=by simp [World.frozen?,re,hsb]
   have z2 : (re V τ 0).frozen? ⟨sb,2,none⟩ = false:=by simp [World.frozen?,re,hsb]
   have z3 : (re V τ 0).frozen? ⟨sb,3,none⟩ = false:=by simp [World.frozen?,re,hsb]
   clear hsb
   clear K
   obtain ⟨f,hf,hT⟩:=array150f T hs
   have et1:=hf 1 _ t1
   have et2:=hf 2 _ t2
   have et4:=hf 4 _ t4
   have et5:=hf 5 _ t5
   have et6:=hf 6 _ t6
   have et7:=hf 7 _ t7
   clear hf hs t1 t2 t4 t5 t6 t7
   subst hT
   simp only [et1,et2,et4,et5,et6,et7]
   clear et1 et2 et4 et5 et6 et7
   simp only [nvc2,R18n,R19n,R20n,R21n,R22n,R10n,W1n,W2n,W3n,F17n,R8t,R9t,TY,T1t,TL,TZ,X6t,B76,nva,nvb,nvk,nvl,Try.f76,Option.getD_some]
   go_wp2_with fail
   exact ⟨norm_set (norm_set (norm_set hn _ _) _ _) _ _,⟨by simp,rfl,rfl,rfl,rfl,rfl,rfl⟩⟩
 · obtain ⟨T',df⟩:=a'
   simp only at ha' q1
   subst ha' q0
   exact K T' q1
theorem t_r19 (hn : norm V = V) (hsb : V.heap[sb]? = some (.cells #[.slice la n lc,(.slice (some ⟨ga,0,none⟩) n ca),(.slice (some ⟨go,0,none⟩) n oc),(.slice (some ⟨gp,0,none⟩) n pc),odv,lgv] 34 (0,0))) (hrb : V.heap[rb]? = some (.cells #[.slice none 0 0,.slice none 0 0,.slice none 0 0,.slice none 0 0,.slice none 0 0,.slice none 0 0] 34 (0,0))) (hne : sb ≠ rb) (h1 : ∃ a b c,odv = .slice a b c) (h2 : ∃ a b c,lgv = .slice a b c) (hT : HT9 T i sb rb (.slice (some ⟨ga,0,none⟩) n ca) (.slice (some ⟨go,0,none⟩) n oc) (.slice (some ⟨gp,0,none⟩) n pc))
   (K : ∀ T',HT9 T' i sb rb (.slice (some ⟨ga,0,none⟩) n ca) (.slice (some ⟨go,0,none⟩) n oc) (.slice (some ⟨gp,0,none⟩) n pc) → To0 Try.prog Post Z ((((((V.setCell ⟨rb,0,none⟩ (.slice la n lc)).setCell ⟨rb,1,none⟩ (.slice (some ⟨ga,0,none⟩) n ca)).setCell ⟨rb,2,none⟩ (.slice (some ⟨go,0,none⟩) n oc)).setCell ⟨rb,3,none⟩ (.slice (some ⟨gp,0,none⟩) n pc)).setCell ⟨rb,4,none⟩ odv).setCell ⟨rb,5,none⟩ lgv) (G ((base 76).at ⟨T',[]⟩ kt) cs0)) :
   To0 Try.prog Post Z V (G ((base 76).at ⟨T,[]⟩ (.code R19n :: kt)) cs0):=by
 refine To0.walk (will_code (L:=Lone) (R:=fun a' V'=>V' = ((((((V.setCell ⟨rb,0,none⟩ (.slice la n lc)).setCell ⟨rb,1,none⟩ (.slice (some ⟨ga,0,none⟩) n ca)).setCell ⟨rb,2,none⟩ (.slice (some ⟨go,0,none⟩) n oc)).setCell ⟨rb,3,none⟩ (.slice (some ⟨gp,0,none⟩) n pc)).setCell ⟨rb,4,none⟩ odv).setCell ⟨rb,5,none⟩ lgv) ∧ HT9 a'.tmps i sb rb (.slice (some ⟨ga,0,none⟩) n ca) (.slice (some ⟨go,0,none⟩) n oc) (.slice (some ⟨gp,0,none⟩) n pc)) calm rfl ⟨_,Try.func76⟩ rfl (by kernel_rfl) (fun τ=>?_) fun a' V' ⟨q0,q1⟩ ha'=>Will.stop ?_)
 · obtain ⟨hs,t1,t2,t4,t5,t6,t7⟩:=hT
   obtain ⟨x1,x2,x3,rfl⟩:=h1
   obtain ⟨y1,y2,y3,rfl⟩:=h2
   have c_hsb0 : (re V τ 0).cell? ⟨sb,0,none⟩ = some (.slice la n lc):=cell_of hsb (by simp)
   have c_hsb1 : (re V τ 0).cell? ⟨sb,1,none⟩ = some (.slice (some ⟨ga,0,none⟩) n ca):=cell_of hsb (by simp)
   have c_hsb2 : (re V τ 0).cell? ⟨sb,2,none⟩ = some (.slice (some ⟨go,0,none⟩) n oc):=cell_of hsb (by simp)
   have c_hsb3 : (re V τ 0).cell? ⟨sb,3,none⟩ = some (.slice (some ⟨gp,0,none⟩) n pc):=cell_of hsb (by simp)
   have c_hsb4 : (re V τ 0).cell? ⟨sb,4,none⟩ = some (.slice x1 x2 x3):=cell_of hsb (by simp)
   have c_hsb5 : (re V τ 0).cell? ⟨sb,5,none⟩ = some (.slice y1 y2 y3):=cell_of hsb (by simp)
   have c_hrb0 : (re V τ 0).cell? ⟨rb,0,none⟩ = some (.slice none 0 0):=cell_of hrb (by simp)
   have z_hrb0 : (re V τ 0).frozen? ⟨rb,0,none⟩ = false:=by simp [World.frozen?,re,hrb]
   have c_hrb1 : (re V τ 0).cell? ⟨rb,1,none⟩ = some (.slice none 0 0):=cell_of hrb (by simp)
   have z_hrb1 : (re V τ 0).frozen? ⟨rb,1,none⟩ = false:=by simp [World.frozen?,re,hrb]
   have c_hrb2 : (re V τ 0).cell? ⟨rb,2,none⟩ = some (.slice none 0 0):=cell_of hrb (by simp)
   have z_hrb2 : (re V τ 0).frozen? ⟨rb,2,none⟩ = false:=by simp [World.frozen?,re,hrb]
   have c_hrb3 : (re V τ 0).cell? ⟨rb,3,none⟩ = some (.slice none 0 0):=cell_of hrb (by simp)
   have z_hrb3 : (re V τ 0).frozen? ⟨rb,3,none⟩ = false:=by simp [World.frozen?,re,hrb]
   have c_hrb4 : (re V τ 0).cell? ⟨rb,4,none⟩ = some (.slice none 0 0):=cell_of hrb (by simp)
   have z_hrb4 : (re V τ 0).frozen? ⟨rb,4,none⟩ = false:=by simp [World.frozen?,re,hrb]
   have c_hrb5 : (re V τ 0).cell? ⟨rb,5,none⟩ = some (.slice none 0 0):=cell_of hrb (by simp)
   have z_hrb5 : (re V τ 0).frozen? ⟨rb,5,none⟩ = false:=by simp [World.frozen?,re,hrb]
   clear hsb hrb
   clear K
   obtain ⟨f,hf,hT⟩:=array150f T hs
   have et1:=hf 1 _ t1
   have et2:=hf 2 _ t2
   have et4:=hf 4 _ t4
   have et5:=hf 5 _ t5
   have et6:=hf 6 _ t6
   have et7:=hf 7 _ t7
   clear hf hs t1 t2 t4 t5 t6 t7
   subst hT
   simp only [et1,et2,et4,et5,et6,et7]
   clear et1 et2 et4 et5 et6 et7
   simp only [nvc2,R18n,R19n,R20n,R21n,R22n,R10n,W1n,W2n,W3n,F17n,R8t,R9t,TY,T1t,TL,TZ,X6t,B76,nva,nvb,nvk,nvl,Try.f76,Option.getD_some]
   go_wp2_with fail
   exact ⟨norm_set (norm_set (norm_set (norm_set (norm_set (norm_set hn _ _) _ _) _ _) _ _) _ _) _ _,⟨by simp,rfl,rfl,rfl,rfl,rfl,rfl⟩⟩
 · obtain ⟨T',df⟩:=a'
   simp only at ha' q1
   subst ha' q0
   exact K T' q1
theorem t_r22 (hn : norm V = V) (hsb : V.heap[sb]? = some (.cells #[.slice la n lc,(.slice (some ⟨ga,0,none⟩) n ca),(.slice (some ⟨go,0,none⟩) n oc),(.slice (some ⟨gp,0,none⟩) n pc),odv,lgv] 34 (0,0))) (hrb : V.heap[rb]? = some (.cells #[.slice none 0 0,.slice none 0 0,.slice none 0 0,.slice none 0 0,.slice none 0 0,.slice none 0 0] 34 (0,0))) (hne : sb ≠ rb) (h1 : ∃ a b c,odv = .slice a b c) (h2 : ∃ a b c,lgv = .slice a b c) (hT : HT9 T i sb rb (.slice (some ⟨ga,0,none⟩) n ca) (.slice (some ⟨go,0,none⟩) n oc) (.slice (some ⟨gp,0,none⟩) n pc))
   (K : ∀ T',HT9 T' i sb rb (.slice (some ⟨ga,0,none⟩) n ca) (.slice (some ⟨go,0,none⟩) n oc) (.slice (some ⟨gp,0,none⟩) n pc) → To0 Try.prog Post Z ((((((V.setCell ⟨rb,0,none⟩ (.slice la n lc)).setCell ⟨rb,1,none⟩ (.slice (some ⟨ga,0,none⟩) n ca)).setCell ⟨rb,2,none⟩ (.slice (some ⟨go,0,none⟩) n oc)).setCell ⟨rb,3,none⟩ (.slice (some ⟨gp,0,none⟩) n pc)).setCell ⟨rb,4,none⟩ odv).setCell ⟨rb,5,none⟩ lgv) (G ((base 76).at ⟨T',[]⟩ kt) cs0)) :
   To0 Try.prog Post Z V (G ((base 76).at ⟨T,[]⟩ (.code R22n :: kt)) cs0):=by
 refine To0.walk (will_code (L:=Lone) (R:=fun a' V'=>V' = ((((((V.setCell ⟨rb,0,none⟩ (.slice la n lc)).setCell ⟨rb,1,none⟩ (.slice (some ⟨ga,0,none⟩) n ca)).setCell ⟨rb,2,none⟩ (.slice (some ⟨go,0,none⟩) n oc)).setCell ⟨rb,3,none⟩ (.slice (some ⟨gp,0,none⟩) n pc)).setCell ⟨rb,4,none⟩ odv).setCell ⟨rb,5,none⟩ lgv) ∧ HT9 a'.tmps i sb rb (.slice (some ⟨ga,0,none⟩) n ca) (.slice (some ⟨go,0,none⟩) n oc) (.slice (some ⟨gp,0,none⟩) n pc)) calm rfl ⟨_,Try.func76⟩ rfl (by kernel_rfl) (fun τ=>?_) fun a' V' ⟨q0,q1⟩ ha'=>Will.stop ?_)
 · obtain ⟨hs,t1,t2,t4,t5,t6,t7⟩:=hT
   obtain ⟨x1,x2,x3,rfl⟩:=h1
   obtain ⟨y1,y2,y3,rfl⟩:=h2
   have c_hsb0 : (re V τ 0).cell? ⟨sb,0,none⟩ = some (.slice la n lc):=cell_of hsb (by simp)
   have c_hsb1 : (re V τ 0).cell? ⟨sb,1,none⟩ = some (.slice (some ⟨ga,0,none⟩) n ca):=cell_of hsb (by simp)
   have c_hsb2 : (re V τ 0).cell? ⟨sb,2,none⟩ = some (.slice (some ⟨go,0,none⟩) n oc):=cell_of hsb (by simp)
   have c_hsb3 : (re V τ 0).cell? ⟨sb,3,none⟩ = some (.slice (some ⟨gp,0,none⟩) n pc):=cell_of hsb (by simp)
   have c_hsb4 : (re V τ 0).cell? ⟨sb,4,none⟩ = some (.slice x1 x2 x3):=cell_of hsb (by simp)
   have c_hsb5 : (re V τ 0).cell? ⟨sb,5,none⟩ = some (.slice y1 y2 y3):=cell_of hsb (by simp)
   have c_hrb0 : (re V τ 0).cell? ⟨rb,0,none⟩ = some (.slice none 0 0):=cell_of hrb (by simp)
   have z_hrb0 : (re V τ 0).frozen? ⟨rb,0,none⟩ = false:=by simp [World.frozen?,re,hrb]
   have c_hrb1 : (re V τ 0).cell? ⟨rb,1,none⟩ = some (.slice none 0 0):=cell_of hrb (by simp)
   have z_hrb1 : (re V τ 0).frozen? ⟨rb,1,none⟩ = false:=by simp [World.frozen?,re,hrb]
   have c_hrb2 : (re V τ 0).cell? ⟨rb,2,none⟩ = some (.slice none 0 0):=cell_of hrb (by simp)
   have z_hrb2 : (re V τ 0).frozen? ⟨rb,2,none⟩ = false:=by simp [World.frozen?,re,hrb]
   have c_hrb3 : (re V τ 0).cell? ⟨rb,3,none⟩ = some (.slice none 0 0):=cell_of hrb (by simp)
   have z_hrb3 : (re V τ 0).frozen? ⟨rb,3,none⟩ = false:=by simp [World.frozen?,re,hrb]
   have c_hrb4 : (re V τ 0).cell? ⟨rb,4,none⟩ = some (.slice none 0 0):=cell_of hrb (by simp)
   have z_hrb4 : (re V τ 0).frozen? ⟨rb,4,none⟩ = false:=by simp [World.frozen?,re,hrb]
   have c_hrb5 : (re V τ 0).cell? ⟨rb,5,none⟩ = some (.slice none 0 0):=cell_of hrb (by simp)
   have z_hrb5 : (re V τ 0).frozen? ⟨rb,5,none⟩ = false:=by simp [World.frozen?,re,hrb]
   clear hsb hrb
   clear K
   obtain ⟨f,hf,hT⟩:=array150f T hs
   have et1:=hf 1 _ t1
   have et2:=hf 2 _ t2
   have et4:=hf 4 _ t4
   have et5:=hf 5 _ t5
   have et6:=hf 6 _ t6
   have et7:=hf 7 _ t7
   clear hf hs t1 t2 t4 t5 t6 t7
   subst hT
   simp only [et1,et2,et4,et5,et6,et7]
   clear et1 et2 et4 et5 et6 et7
   simp only [nvc2,R18n,R19n,R20n,R21n,R22n,R10n,W1n,W2n,W3n,F17n,R8t,R9t,TY,T1t,TL,TZ,X6t,B76,nva,nvb,nvk,nvl,Try.f76,Option.getD_some]
   go_wp2_with fail
   exact ⟨norm_set (norm_set (norm_set (norm_set (norm_set (norm_set hn _ _) _ _) _ _) _ _) _ _) _ _,⟨by simp,rfl,rfl,rfl,rfl,rfl,rfl⟩⟩
 · obtain ⟨T',df⟩:=a'
   simp only at ha' q1
   subst ha' q0
   exact K T' q1
theorem t_r20 (hn : norm V = V) (hi : i < n) {bv : Bool} (hb : V.cell? ⟨go,i,none⟩ = some (.bool bv)) (hz : V.frozen? ⟨go,i,none⟩ = false) (hT : HT9 T i sb rb (.slice (some ⟨ga,0,none⟩) n ca) (.slice (some ⟨go,0,none⟩) n oc) (.slice (some ⟨gp,0,none⟩) n pc))
   (K : ∀ T',HT9 T' i sb rb (.slice (some ⟨ga,0,none⟩) n ca) (.slice (some ⟨go,0,none⟩) n oc) (.slice (some ⟨gp,0,none⟩) n pc) → To0 Try.prog Post Z (V.setCell ⟨go,i,none⟩ (.bool true)) (G ((base 76).at ⟨T',[]⟩ kt) cs0)) :
   To0 Try.prog Post Z V (G ((base 76).at ⟨T,[]⟩ (.code R20n :: kt)) cs0):=by
 refine To0.walk (will_code (L:=Lone) (R:=fun a' V'=>V' = (V.setCell ⟨go,i,none⟩ (.bool true)) ∧ HT9 a'.tmps i sb rb (.slice (some ⟨ga,0,none⟩) n ca) (.slice (some ⟨go,0,none⟩) n oc) (.slice (some ⟨gp,0,none⟩) n pc)) calm rfl ⟨_,Try.func76⟩ rfl (by kernel_rfl) (fun τ=>?_) fun a' V' ⟨q0,q1⟩ ha'=>Will.stop ?_)
 · obtain ⟨hs,t1,t2,t4,t5,t6,t7⟩:=hT
   have q1 : ¬ ((i : Int) < 0):=by omega
   have q2 : ¬ ((n : Int) ≤ (i : Int)):=by omega
   have z1 : (re V τ 0).frozen? ⟨go,i,none⟩ = false:=hz
   have b1 : (re V τ 0).cell? ⟨go,i,none⟩ = some (.bool bv):=hb
   clear hz hb
   clear K
   obtain ⟨f,hf,hT⟩:=array150f T hs
   have et1:=hf 1 _ t1
   have et2:=hf 2 _ t2
   have et4:=hf 4 _ t4
   have et5:=hf 5 _ t5
   have et6:=hf 6 _ t6
   have et7:=hf 7 _ t7
   clear hf hs t1 t2 t4 t5 t6 t7
   subst hT
   simp only [et1,et2,et4,et5,et6,et7]
   clear et1 et2 et4 et5 et6 et7
   simp only [nvc2,R18n,R19n,R20n,R21n,R22n,R10n,W1n,W2n,W3n,F17n,R8t,R9t,TY,T1t,TL,TZ,X6t,B76,nva,nvb,nvk,nvl,Try.f76,Option.getD_some]
   go_wp2_with fail
   exact ⟨norm_set hn _ _,⟨by simp,rfl,rfl,rfl,rfl,rfl,rfl⟩⟩
 · obtain ⟨T',df⟩:=a'
   simp only at ha' q1
   subst ha' q0
   exact K T' q1
theorem six_cells {V : World} {b : Nat} {c0 c1 c2 c3 c4 c5 v0 v1 v2 v3 v4 v5 : Value} {t : TypeId} (h : V.heap[b]? = some (.cells #[c0,c1,c2,c3,c4,c5] t (0,0))) : ((((((V.setCell ⟨b,0,none⟩ v0).setCell ⟨b,1,none⟩ v1).setCell ⟨b,2,none⟩ v2).setCell ⟨b,3,none⟩ v3).setCell ⟨b,4,none⟩ v4).setCell ⟨b,5,none⟩ v5).heap[b]? = some (.cells #[v0,v1,v2,v3,v4,v5] t (0,0)):=by
 rw [setCell_heap,if_pos rfl,setCell_heap,if_pos rfl,setCell_heap,if_pos rfl,setCell_heap,if_pos rfl,setCell_heap,if_pos rfl,setCell_heap,if_pos rfl,h]
 simp
theorem six_off {V : World} {b x : Nat} {v0 v1 v2 v3 v4 v5 : Value} (hx : x ≠ b) : ((((((V.setCell ⟨b,0,none⟩ v0).setCell ⟨b,1,none⟩ v1).setCell ⟨b,2,none⟩ v2).setCell ⟨b,3,none⟩ v3).setCell ⟨b,4,none⟩ v4).setCell ⟨b,5,none⟩ v5).heap[x]? = V.heap[x]?:=by
 rw [set_off _ _ hx,set_off _ _ hx,set_off _ _ hx,set_off _ _ hx,set_off _ _ hx,set_off _ _ hx]
theorem six_size {V : World} {b : Nat} {v0 v1 v2 v3 v4 v5 : Value} : ((((((V.setCell ⟨b,0,none⟩ v0).setCell ⟨b,1,none⟩ v1).setCell ⟨b,2,none⟩ v2).setCell ⟨b,3,none⟩ v3).setCell ⟨b,4,none⟩ v4).setCell ⟨b,5,none⟩ v5).heap.size = V.heap.size:=by simp [World.setCell]
end
end Go.Proofs.Ytibcdikfbhmheaa

namespace Go.Proofs.Ytibcdikfbhmheaa
open Go Go.Conc Go.Proofs
open Go.ConcN (sumTo upd sumTo_upd upd_ne upd_same)
set_option linter.unusedVariables false
theorem own_tyK {V : World} {e t : TypeId} {sz : Nat} {v : Value} {n : Nat} {xs : List Value} {b : Nat} {c : Array Value} {f : Nat × Nat} (h : V.ownsRow 0 e sz v n xs) (hb : V.heap[b]? = some (.cells c t f)) (hne : e ≠ t) : v.ownBlock ≠ some b:=fun he=>by
 obtain ⟨_,h2⟩:=h
 rcases h2 with ⟨rfl,_⟩ | ⟨g,cap,cur,rfl,_,h4,_⟩
 · cases he
 · obtain rfl : g = b:=by simpa [Value.ownBlock] using he
   rw [h4] at hb
   injection hb with hb
   injection hb with _ hb _
   exact hne hb
structure Tk where
 n : Nat
 i : Nat
 sb : Nat
 rb : Nat
 ga : Nat
 go : Nat
 gp : Nat
 ca : Nat
 oc : Nat
 pc : Nat
 lc : Nat
 la : Option Addr
 av0 : Value
 ov0 : Value
 pv0 : Value
 V0 : World
def Tk.av (k : Tk) : Value:=.slice (some ⟨k.ga,0,none⟩) k.n k.ca
def Tk.ov (k : Tk) : Value:=.slice (some ⟨k.go,0,none⟩) k.n k.oc
def Tk.pv (k : Tk) : Value:=.slice (some ⟨k.gp,0,none⟩) k.n k.pc
structure Tk.Ok (k : Tk) : Prop where
 hi : k.i < k.n
 lo : k.V0.heap.size ≤ k.sb ∧ k.V0.heap.size ≤ k.rb ∧ k.V0.heap.size ≤ k.ga ∧ k.V0.heap.size ≤ k.go ∧ k.V0.heap.size ≤ k.gp
 ne : k.sb ≠ k.rb ∧ k.ga ≠ k.sb ∧ k.ga ≠ k.rb ∧ k.go ≠ k.sb ∧ k.go ≠ k.rb ∧ k.gp ≠ k.sb ∧ k.gp ≠ k.rb ∧ k.ga ≠ k.go ∧ k.ga ≠ k.gp ∧ k.go ≠ k.gp
 f1 : ∃ a b c,k.av0 = .slice a b c
 f2 : ∃ a b c,k.ov0 = .slice a b c
 f3 : ∃ a b c,k.pv0 = .slice a b c
def rowB (f : Nat → Bool) (n : Nat) : List Value:=(List.range n).map fun j=>.bool (f j)
def rowN (f : Nat → Nat) (n : Nat) : List Value:=(List.range n).map fun j=>.int .i64 (f j : Int)
structure TI (k : Tk) (at_ : Nat → Nat) (lg : List (Nat × Nat)) (fo fp : Nat → Bool) (xs : List Nat) (V : World) (odv lgv : Value) : Prop where
 nrm : norm V = V
 kp : Kp k.V0 V
 sbc : V.heap[k.sb]? = some (.cells #[.slice k.la k.n k.lc,k.av0,k.ov0,k.pv0,odv,lgv] 34 (0,0))
 rbc : V.heap[k.rb]? = some (.cells #[.slice none 0 0,.slice none 0 0,.slice none 0 0,.slice none 0 0,.slice none 0 0,.slice none 0 0] 34 (0,0))
 a : V.ownsRow 0 3 1 k.av k.n (rowN at_ k.n)
 o : V.ownsRow 0 4 1 k.ov k.n (rowB fo k.n)
 q : V.ownsRow 0 4 1 k.pv k.n (rowB fp k.n)
 od : V.ownsRow 0 3 1 odv xs.length (ints xs)
 lg : V.ownsRow 0 41 2 lgv lg.length (notes lg)
 odn : odv.ownBlock ≠ some k.ga
section
variable {k : Tk} {at_ : Nat → Nat} {lg : List (Nat × Nat)} {fo fp : Nat → Bool} {xs : List Nat} {V V' : World} {odv lgv : Value}
theorem row_cell {e : TypeId} {g c n j : Nat} {ys : List Value} {x : Value} (h : V.ownsRow 0 e 1 (.slice (some ⟨g,0,none⟩) n c) n ys) (hx : ys[j]? = some x) : V.cell? ⟨g,j,none⟩ = some x ∧ V.frozen? ⟨g,j,none⟩ = false:=by
 obtain ⟨h1,h2⟩:=h
 rcases h2 with ⟨h2,_⟩ | ⟨g',cap,cur,h2,_,h4,h5,h6,h7,h8⟩
 · cases h2
 · obtain ⟨rfl,rfl⟩ : g = g' ∧ c = cap:=by simpa using h2
   refine ⟨cell_of h4 ?_,by simp [World.frozen?,h4]⟩
   rw [← h8] at hx
   have hj : j < n * 1:=by
     apply Nat.lt_of_not_le
     intro hge
     rw [List.getElem?_eq_none (by rw [List.length_take]; omega)] at hx
     cases hx
   rw [List.getElem?_take,if_pos hj] at hx
   simpa using hx
theorem rowB_at {f : Nat → Bool} {n j : Nat} (hj : j < n) : (rowB f n)[j]? = some (.bool (f j)):=by simp [rowB,hj]
theorem rowN_at {f : Nat → Nat} {n j : Nat} (hj : j < n) : (rowN f n)[j]? = some (.int .i64 (f j : Int)):=by simp [rowN,hj]
theorem rowB_set {f : Nat → Bool} {n j : Nat} {b : Bool} : (rowB f n).set j (.bool b) = rowB (upd f j b) n:=by
 unfold rowB
 rw [set_map]
 exact map_cong fun i _=>by
   by_cases e : i = j
   · subst e; rw [upd_same,upd_same]
   · rw [upd_ne _ _ e,upd_ne _ _ e]
theorem rowN_set {f : Nat → Nat} {n j x : Nat} : (rowN f n).set j (.int .i64 (x : Int)) = rowN (upd f j x) n:=by
 unfold rowN
 rw [set_map]
 exact map_cong fun i _=>by
   by_cases e : i = j
   · subst e; rw [upd_same,upd_same]
   · rw [upd_ne _ _ e,upd_ne _ _ e]
theorem TI.setA (O : k.Ok) (I : TI k at_ lg fo fp xs V odv lgv) (x : Nat) : TI k (upd at_ k.i x) lg fo fp xs (V.setCell ⟨k.ga,k.i,none⟩ (.int .i64 (x : Int))) odv lgv:=by
 obtain ⟨h1,h2,h3,h4,h5⟩:=O.lo
 obtain ⟨n1,n2,n3,n4,n5,n6,n7,n8,n9,n10⟩:=O.ne
 have hs : ∀ b,b ≠ k.ga → (V.setCell ⟨k.ga,k.i,none⟩ (.int .i64 (x : Int))).heap[b]? = V.heap[b]?:=fun b hb=>set_off _ _ hb
 have hga : V.heap[k.ga]? ≠ none:=fun e=>by
   have:=(row_cell I.a (rowN_at O.hi)).1
   unfold World.cell? at this
   rw [e] at this; cases this
 refine ⟨norm_set I.nrm _ _,⟨by have:=I.kp.size; simpa [World.setCell] using this,fun b hb=>by rw [hs b (by omega)]; exact I.kp.keep b hb⟩,by rw [hs _ (fun e=>n2 e.symm)]; exact I.sbc,by rw [hs _ (fun e=>n3 e.symm)]; exact I.rbc,?_,row_keep I.o fun b hb=>hs b (fun e=>?_),row_keep I.q fun b hb=>hs b (fun e=>?_),row_keep I.od fun b hb=>hs b (fun e=>I.odn (e ▸ hb)),row_keep I.lg fun b hb=>hs b (fun e=>?_),I.odn⟩
 · have:=row_set (x:=.int .i64 (x : Int)) I.a (g:=k.ga) rfl O.hi
   rw [rowN_set] at this
   exact this
 · subst e; exact n8 (Option.some.inj (show some k.go = some k.ga from hb)).symm
 · subst e; exact n9 (Option.some.inj (show some k.gp = some k.ga from hb)).symm
 · subst e
   obtain ⟨_,⟨h0,_⟩ | ⟨g',cap,cur,h0,_,hh,_⟩⟩:=I.a
   · cases h0
   · obtain ⟨rfl,_⟩ : k.ga = g' ∧ k.ca = cap:=by simpa [Tk.av] using h0
     exact own_tyK I.lg hh (by decide) hb
theorem tyB {e : TypeId} {g c n : Nat} {ys : List Value} (h : V.ownsRow 0 e 1 (.slice (some ⟨g,0,none⟩) n c) n ys) : ∃ cur,V.heap[g]? = some (.cells cur e (0,0)):=by
 obtain ⟨_,⟨h0,_⟩ | ⟨g',cap,cur,h0,_,hh,_⟩⟩:=h
 · cases h0
 · obtain ⟨rfl,_⟩ : g = g' ∧ c = cap:=by simpa using h0
   exact ⟨cur,hh⟩
theorem TI.setP (O : k.Ok) (I : TI k at_ lg fo fp xs V odv lgv) {j : Nat} (hj : j < k.n) (x : Bool) : TI k at_ lg fo (upd fp j x) xs (V.setCell ⟨k.gp,j,none⟩ (.bool x)) odv lgv:=by
 obtain ⟨h1,h2,h3,h4,h5⟩:=O.lo
 obtain ⟨n1,n2,n3,n4,n5,n6,n7,n8,n9,n10⟩:=O.ne
 have hs : ∀ b,b ≠ k.gp → (V.setCell ⟨k.gp,j,none⟩ (.bool x)).heap[b]? = V.heap[b]?:=fun b hb=>set_off _ _ hb
 obtain ⟨cur,hh⟩:=tyB I.q
 refine ⟨norm_set I.nrm _ _,⟨by have:=I.kp.size; simpa [World.setCell] using this,fun b hb=>by rw [hs b (by omega)]; exact I.kp.keep b hb⟩,by rw [hs _ (fun e=>n6 e.symm)]; exact I.sbc,by rw [hs _ (fun e=>n7 e.symm)]; exact I.rbc,row_keep I.a fun b hb=>hs b (fun e=>?_),row_keep I.o fun b hb=>hs b (fun e=>?_),?_,row_keep I.od fun b hb=>hs b (fun e=>own_tyL I.od hh (by decide) (e ▸ hb)),row_keep I.lg fun b hb=>hs b (fun e=>own_tyK I.lg hh (by decide) (e ▸ hb)),I.odn⟩
 · subst e; exact n9 (Option.some.inj (show some k.ga = some k.gp from hb))
 · subst e; exact n10 (Option.some.inj (show some k.go = some k.gp from hb))
 · have:=row_set (x:=.bool x) I.q (g:=k.gp) rfl hj
   rw [rowB_set] at this
   exact this
theorem TI.setO (O : k.Ok) (I : TI k at_ lg fo fp xs V odv lgv) {j : Nat} (hj : j < k.n) (x : Bool) : TI k at_ lg (upd fo j x) fp xs (V.setCell ⟨k.go,j,none⟩ (.bool x)) odv lgv:=by
 obtain ⟨h1,h2,h3,h4,h5⟩:=O.lo
 obtain ⟨n1,n2,n3,n4,n5,n6,n7,n8,n9,n10⟩:=O.ne
 have hs : ∀ b,b ≠ k.go → (V.setCell ⟨k.go,j,none⟩ (.bool x)).heap[b]? = V.heap[b]?:=fun b hb=>set_off _ _ hb
 obtain ⟨cur,hh⟩:=tyB I.o
 refine ⟨norm_set I.nrm _ _,⟨by have:=I.kp.size; simpa [World.setCell] using this,fun b hb=>by rw [hs b (by omega)]; exact I.kp.keep b hb⟩,by rw [hs _ (fun e=>n4 e.symm)]; exact I.sbc,by rw [hs _ (fun e=>n5 e.symm)]; exact I.rbc,row_keep I.a fun b hb=>hs b (fun e=>?_),?_,row_keep I.q fun b hb=>hs b (fun e=>?_),row_keep I.od fun b hb=>hs b (fun e=>own_tyL I.od hh (by decide) (e ▸ hb)),row_keep I.lg fun b hb=>hs b (fun e=>own_tyK I.lg hh (by decide) (e ▸ hb)),I.odn⟩
 · subst e; exact n8 (Option.some.inj (show some k.ga = some k.go from hb))
 · have:=row_set (x:=.bool x) I.o (g:=k.go) rfl hj
   rw [rowB_set] at this
   exact this
 · subst e; exact n10 (Option.some.inj (show some k.gp = some k.go from hb)).symm
theorem TI.more (O : k.Ok) (I : TI k at_ lg fo fp xs V odv lgv) (hn : norm V' = V') (h : Kp V V') : TI k at_ lg fo fp xs V' odv lgv :=
 ⟨hn,I.kp.trans h,(h.keep _ (Array.getElem?_eq_some_iff.1 I.sbc).1).trans I.sbc,(h.keep _ (Array.getElem?_eq_some_iff.1 I.rbc).1).trans I.rbc,row_keep I.a fun b hb=>h.keep b (row_at I.a hb),row_keep I.o fun b hb=>h.keep b (row_at I.o hb),row_keep I.q fun b hb=>h.keep b (row_at I.q hb),row_keep I.od fun b hb=>h.keep b (row_at I.od hb),row_keep I.lg fun b hb=>h.keep b (row_at I.lg hb),I.odn⟩
theorem TI.log (O : k.Ok) (I : TI k at_ lg fo fp xs V odv lgv) {W : World} {v' : Value} {p : Nat} (hn : norm W = W) (h : Kp V W) (hr : W.ownsRow 0 41 2 v' (lg.length + 1) (notes (lg ++ [(k.i,p)]))) : TI k at_ (lg ++ [(k.i,p)]) fo fp xs (W.setCell ⟨k.sb,5,none⟩ v') odv v':=by
 obtain ⟨h1,h2,h3,h4,h5⟩:=O.lo
 obtain ⟨n1,n2,n3,n4,n5,n6,n7,n8,n9,n10⟩:=O.ne
 have I2:=I.more O hn h
 have hs : ∀ b,b ≠ k.sb → (W.setCell ⟨k.sb,5,none⟩ v').heap[b]? = W.heap[b]?:=fun b hb=>set_off _ _ hb
 refine ⟨norm_set hn _ _,⟨by have:=I2.kp.size; simpa [World.setCell] using this,fun b hb=>by rw [hs b (by omega)]; exact I2.kp.keep b hb⟩,?_,by rw [hs _ (fun e=>n1 e.symm)]; exact I2.rbc,row_keep I2.a fun b hb=>hs b (fun e=>?_),row_keep I2.o fun b hb=>hs b (fun e=>?_),row_keep I2.q fun b hb=>hs b (fun e=>?_),row_keep I2.od fun b hb=>hs b (fun e=>own_tyL I2.od I2.sbc (by decide) (e ▸ hb)),?_,I2.odn⟩
 · rw [setCell_heap,if_pos rfl,I2.sbc]
   simp
 · subst e; exact n2 (Option.some.inj (show some k.ga = some k.sb from hb))
 · subst e; exact n4 (Option.some.inj (show some k.go = some k.sb from hb))
 · subst e; exact n6 (Option.some.inj (show some k.gp = some k.sb from hb))
 · rw [List.length_append,List.length_singleton]
   exact row_keep hr fun b hb=>hs b (fun e=>own_tyK hr I2.sbc (by decide) (e ▸ hb))
end
section
variable {k : Tk} {at_ : Nat → Nat} {lg : List (Nat × Nat)} {fo fp : Nat → Bool} {xs : List Nat} {V : World} {odv lgv : Value} {Z : Cuts} {Post : Value → World → Prop} {T : Array Value} {kt : List Item} {b₀ : Frame} {a₀ : Act} {ops₀ : Array Oper} {i₀ : Nat} {rest₀ : List Nat} {k₀ : List Item} {cs0 : List Frame}
structure TEn (k : Tk) (at_ : Nat → Nat) (lg : List (Nat × Nat)) (fo fp : Nat → Bool) (xs : List Nat) (V : World) (odv lgv : Value) : Prop where
 nrm : norm V = V
 kp : Kp k.V0 V
 a : V.ownsRow 0 3 1 k.av k.n (rowN at_ k.n)
 o : V.ownsRow 0 4 1 k.ov k.n (rowB fo k.n)
 q : V.ownsRow 0 4 1 k.pv k.n (rowB fp k.n)
 od : V.ownsRow 0 3 1 odv xs.length (ints xs)
 lg : V.ownsRow 0 41 2 lgv lg.length (notes lg)
theorem t_endA (O : k.Ok) (I : TI k at_ lg fo fp xs V odv lgv) (hT : HT9 T k.i k.sb k.rb k.av k.ov k.pv)
   (K0 : ∀ V',TEn k at_ lg fo fp xs V' odv lgv → To0 Try.prog Post Z V' (G (b₀.at (a₀.put ((ops₀[i₀]?).bind (·.dst)) (.agg #[.slice k.la k.n k.lc,k.av,k.ov,k.pv,odv,lgv])) (.inRegion ops₀ rest₀ :: k₀)) cs0)) :
   To0 Try.prog Post Z V (G ((base 76).at ⟨T,[]⟩ (.code (.seq R18n (.seq R19n .ret)) :: kt)) (b₀.at a₀ (.inRegion ops₀ (i₀ :: rest₀) :: k₀) :: cs0)):=by
 obtain ⟨h1,h2,h3,h4,h5⟩:=O.lo
 obtain ⟨n1,n2,n3,n4,n5,n6,n7,n8,n9,n10⟩:=O.ne
 refine mu_seq mu_to0 ?_
 refine t_r18 I.nrm I.sbc O.f1 O.f2 O.f3 hT fun T1 hT1=>?_
 refine mu_seq mu_to0 ?_
 have e1 : (((V.setCell ⟨k.sb,1,none⟩ k.av).setCell ⟨k.sb,2,none⟩ k.ov).setCell ⟨k.sb,3,none⟩ k.pv).heap[k.sb]? = some (.cells #[.slice k.la k.n k.lc,k.av,k.ov,k.pv,odv,lgv] 34 (0,0)):=by
   rw [setCell_heap,if_pos rfl,setCell_heap,if_pos rfl,setCell_heap,if_pos rfl,I.sbc]
   simp
 have hs1 : ∀ b,b ≠ k.sb → (((V.setCell ⟨k.sb,1,none⟩ k.av).setCell ⟨k.sb,2,none⟩ k.ov).setCell ⟨k.sb,3,none⟩ k.pv).heap[b]? = V.heap[b]?:=fun b hb=>by rw [set_off _ _ hb,set_off _ _ hb,set_off _ _ hb]
 have hz1 : (((V.setCell ⟨k.sb,1,none⟩ k.av).setCell ⟨k.sb,2,none⟩ k.ov).setCell ⟨k.sb,3,none⟩ k.pv).heap.size = V.heap.size:=by simp [World.setCell]
 have hn1 : norm (((V.setCell ⟨k.sb,1,none⟩ k.av).setCell ⟨k.sb,2,none⟩ k.ov).setCell ⟨k.sb,3,none⟩ k.pv) = (((V.setCell ⟨k.sb,1,none⟩ k.av).setCell ⟨k.sb,2,none⟩ k.ov).setCell ⟨k.sb,3,none⟩ k.pv):=norm_set (norm_set (norm_set I.nrm _ _) _ _) _ _
 show To0 Try.prog Post Z (((V.setCell ⟨k.sb,1,none⟩ k.av).setCell ⟨k.sb,2,none⟩ k.ov).setCell ⟨k.sb,3,none⟩ k.pv) _
 generalize (((V.setCell ⟨k.sb,1,none⟩ k.av).setCell ⟨k.sb,2,none⟩ k.ov).setCell ⟨k.sb,3,none⟩ k.pv) = V1 at *
 have hrb1:=(hs1 k.rb (fun e=>n1 e.symm)).trans I.rbc
 refine t_r19 hn1 e1 hrb1 n1 (slice_of I.od) (slice_ofR I.lg) hT1 fun T2 hT2=>?_
 have e2:=six_cells (v0:=.slice k.la k.n k.lc) (v1:=k.av) (v2:=k.ov) (v3:=k.pv) (v4:=odv) (v5:=lgv) hrb1
 have hs2 : ∀ b,b ≠ k.rb → ((((((V1.setCell ⟨k.rb,0,none⟩ (.slice k.la k.n k.lc)).setCell ⟨k.rb,1,none⟩ k.av).setCell ⟨k.rb,2,none⟩ k.ov).setCell ⟨k.rb,3,none⟩ k.pv).setCell ⟨k.rb,4,none⟩ odv).setCell ⟨k.rb,5,none⟩ lgv).heap[b]? = V1.heap[b]?:=fun b hb=>six_off hb
 have hz2 : ((((((V1.setCell ⟨k.rb,0,none⟩ (.slice k.la k.n k.lc)).setCell ⟨k.rb,1,none⟩ k.av).setCell ⟨k.rb,2,none⟩ k.ov).setCell ⟨k.rb,3,none⟩ k.pv).setCell ⟨k.rb,4,none⟩ odv).setCell ⟨k.rb,5,none⟩ lgv).heap.size = V1.heap.size:=six_size
 have hn2 : norm ((((((V1.setCell ⟨k.rb,0,none⟩ (.slice k.la k.n k.lc)).setCell ⟨k.rb,1,none⟩ k.av).setCell ⟨k.rb,2,none⟩ k.ov).setCell ⟨k.rb,3,none⟩ k.pv).setCell ⟨k.rb,4,none⟩ odv).setCell ⟨k.rb,5,none⟩ lgv) = ((((((V1.setCell ⟨k.rb,0,none⟩ (.slice k.la k.n k.lc)).setCell ⟨k.rb,1,none⟩ k.av).setCell ⟨k.rb,2,none⟩ k.ov).setCell ⟨k.rb,3,none⟩ k.pv).setCell ⟨k.rb,4,none⟩ odv).setCell ⟨k.rb,5,none⟩ lgv):=norm_set (norm_set (norm_set (norm_set (norm_set (norm_set hn1 _ _) _ _) _ _) _ _) _ _) _ _
 show To0 Try.prog Post Z ((((((V1.setCell ⟨k.rb,0,none⟩ (.slice k.la k.n k.lc)).setCell ⟨k.rb,1,none⟩ k.av).setCell ⟨k.rb,2,none⟩ k.ov).setCell ⟨k.rb,3,none⟩ k.pv).setCell ⟨k.rb,4,none⟩ odv).setCell ⟨k.rb,5,none⟩ lgv) _
 generalize ((((((V1.setCell ⟨k.rb,0,none⟩ (.slice k.la k.n k.lc)).setCell ⟨k.rb,1,none⟩ k.av).setCell ⟨k.rb,2,none⟩ k.ov).setCell ⟨k.rb,3,none⟩ k.pv).setCell ⟨k.rb,4,none⟩ odv).setCell ⟨k.rb,5,none⟩ lgv) = V2 at *
 refine mu_ret mu_to0 ?_
 have hoff : ∀ b,b ≠ k.sb → b ≠ k.rb → V2.heap[b]? = V.heap[b]?:=fun b g1 g2=>(hs2 b g2).trans (hs1 b g1)
 have E : TEn k at_ lg fo fp xs V2 odv lgv:=by
   refine ⟨hn2,⟨by have:=I.kp.size; omega,fun b hb=>by rw [hoff b (by omega) (by omega)]; exact I.kp.keep b hb⟩,row_keep I.a fun b hb=>hoff b (fun e=>?_) (fun e=>?_),row_keep I.o fun b hb=>hoff b (fun e=>?_) (fun e=>?_),row_keep I.q fun b hb=>hoff b (fun e=>?_) (fun e=>?_),row_keep I.od fun b hb=>hoff b (fun e=>own_tyK I.od I.sbc (by decide) (e ▸ hb)) (fun e=>own_tyK I.od I.rbc (by decide) (e ▸ hb)),row_keep I.lg fun b hb=>hoff b (fun e=>own_tyK I.lg I.sbc (by decide) (e ▸ hb)) (fun e=>own_tyK I.lg I.rbc (by decide) (e ▸ hb))⟩
   · subst e; exact n2 (Option.some.inj (show some k.ga = some k.sb from hb))
   · subst e; exact n3 (Option.some.inj (show some k.ga = some k.rb from hb))
   · subst e; exact n4 (Option.some.inj (show some k.go = some k.sb from hb))
   · subst e; exact n5 (Option.some.inj (show some k.go = some k.rb from hb))
   · subst e; exact n6 (Option.some.inj (show some k.gp = some k.sb from hb))
   · subst e; exact n7 (Option.some.inj (show some k.gp = some k.rb from hb))
 have KE:=K0 V2 E
 have I0:=I.od
 have I1:=I.lg
 clear K0 E hoff hs1 hs2 hz1 hz2 e1 hrb1 I
 obtain ⟨hs,t1,t2,t4,t5,t6,t7⟩:=hT2
 have hg : T2.getD 4 undef = .pointer (some ⟨k.rb,0,none⟩):=by simp [Array.getD_eq_getD_getElem?,t4]
 refine To0.walk (will_leave (fn:=Try.f76) rfl rfl Try.func76 (v:=.agg #[.slice k.la k.n k.lc,k.av,k.ov,k.pv,odv,lgv]) (fun τ=>?_) (Will.stop ?_))
 · have r0 : (re V2 τ 0).cell? ⟨k.rb,0,none⟩ = some (.slice k.la k.n k.lc):=cell_of e2 (by simp)
   have r1 : (re V2 τ 0).cell? ⟨k.rb,1,none⟩ = some k.av:=cell_of e2 (by simp)
   have r2 : (re V2 τ 0).cell? ⟨k.rb,2,none⟩ = some k.ov:=cell_of e2 (by simp)
   have r3 : (re V2 τ 0).cell? ⟨k.rb,3,none⟩ = some k.pv:=cell_of e2 (by simp)
   have r4 : (re V2 τ 0).cell? ⟨k.rb,4,none⟩ = some odv:=cell_of e2 (by simp)
   have r5 : (re V2 τ 0).cell? ⟨k.rb,5,none⟩ = some lgv:=cell_of e2 (by simp)
   unfold Tk.av Tk.ov Tk.pv at *
   obtain ⟨ox,on,oc,rfl⟩:=slice_of I0
   obtain ⟨lx,ln,lc,rfl⟩:=slice_ofR I1
   simp only [results,Try.f76,List.mapM_toArray,List.mapM_cons,List.mapM_nil,Sem.run_bind,hg]
   go_simp
 · rw [Frame.finish_at]
   exact KE
theorem t_endB (O : k.Ok) (I : TI k at_ lg fo fp xs V odv lgv) (hT : HT9 T k.i k.sb k.rb k.av k.ov k.pv)
   (K0 : ∀ V',TEn k at_ lg fo fp xs V' odv lgv → To0 Try.prog Post Z V' (G (b₀.at (a₀.put ((ops₀[i₀]?).bind (·.dst)) (.agg #[.slice k.la k.n k.lc,k.av,k.ov,k.pv,odv,lgv])) (.inRegion ops₀ rest₀ :: k₀)) cs0)) :
   To0 Try.prog Post Z V (G ((base 76).at ⟨T,[]⟩ (.code (.seq R21n (.seq R22n .ret)) :: kt)) (b₀.at a₀ (.inRegion ops₀ (i₀ :: rest₀) :: k₀) :: cs0)):=by
 obtain ⟨h1,h2,h3,h4,h5⟩:=O.lo
 obtain ⟨n1,n2,n3,n4,n5,n6,n7,n8,n9,n10⟩:=O.ne
 refine mu_seq mu_to0 ?_
 refine t_r21 I.nrm I.sbc O.f1 O.f2 O.f3 hT fun T1 hT1=>?_
 refine mu_seq mu_to0 ?_
 have e1 : (((V.setCell ⟨k.sb,1,none⟩ k.av).setCell ⟨k.sb,2,none⟩ k.ov).setCell ⟨k.sb,3,none⟩ k.pv).heap[k.sb]? = some (.cells #[.slice k.la k.n k.lc,k.av,k.ov,k.pv,odv,lgv] 34 (0,0)):=by
   rw [setCell_heap,if_pos rfl,setCell_heap,if_pos rfl,setCell_heap,if_pos rfl,I.sbc]
   simp
 have hs1 : ∀ b,b ≠ k.sb → (((V.setCell ⟨k.sb,1,none⟩ k.av).setCell ⟨k.sb,2,none⟩ k.ov).setCell ⟨k.sb,3,none⟩ k.pv).heap[b]? = V.heap[b]?:=fun b hb=>by rw [set_off _ _ hb,set_off _ _ hb,set_off _ _ hb]
 have hz1 : (((V.setCell ⟨k.sb,1,none⟩ k.av).setCell ⟨k.sb,2,none⟩ k.ov).setCell ⟨k.sb,3,none⟩ k.pv).heap.size = V.heap.size:=by simp [World.setCell]
 have hn1 : norm (((V.setCell ⟨k.sb,1,none⟩ k.av).setCell ⟨k.sb,2,none⟩ k.ov).setCell ⟨k.sb,3,none⟩ k.pv) = (((V.setCell ⟨k.sb,1,none⟩ k.av).setCell ⟨k.sb,2,none⟩ k.ov).setCell ⟨k.sb,3,none⟩ k.pv):=norm_set (norm_set (norm_set I.nrm _ _) _ _) _ _
 show To0 Try.prog Post Z (((V.setCell ⟨k.sb,1,none⟩ k.av).setCell ⟨k.sb,2,none⟩ k.ov).setCell ⟨k.sb,3,none⟩ k.pv) _
 generalize (((V.setCell ⟨k.sb,1,none⟩ k.av).setCell ⟨k.sb,2,none⟩ k.ov).setCell ⟨k.sb,3,none⟩ k.pv) = V1 at *
 have hrb1:=(hs1 k.rb (fun e=>n1 e.symm)).trans I.rbc
 refine t_r22 hn1 e1 hrb1 n1 (slice_of I.od) (slice_ofR I.lg) hT1 fun T2 hT2=>?_
 have e2:=six_cells (v0:=.slice k.la k.n k.lc) (v1:=k.av) (v2:=k.ov) (v3:=k.pv) (v4:=odv) (v5:=lgv) hrb1
 have hs2 : ∀ b,b ≠ k.rb → ((((((V1.setCell ⟨k.rb,0,none⟩ (.slice k.la k.n k.lc)).setCell ⟨k.rb,1,none⟩ k.av).setCell ⟨k.rb,2,none⟩ k.ov).setCell ⟨k.rb,3,none⟩ k.pv).setCell ⟨k.rb,4,none⟩ odv).setCell ⟨k.rb,5,none⟩ lgv).heap[b]? = V1.heap[b]?:=fun b hb=>six_off hb
 have hz2 : ((((((V1.setCell ⟨k.rb,0,none⟩ (.slice k.la k.n k.lc)).setCell ⟨k.rb,1,none⟩ k.av).setCell ⟨k.rb,2,none⟩ k.ov).setCell ⟨k.rb,3,none⟩ k.pv).setCell ⟨k.rb,4,none⟩ odv).setCell ⟨k.rb,5,none⟩ lgv).heap.size = V1.heap.size:=six_size
 have hn2 : norm ((((((V1.setCell ⟨k.rb,0,none⟩ (.slice k.la k.n k.lc)).setCell ⟨k.rb,1,none⟩ k.av).setCell ⟨k.rb,2,none⟩ k.ov).setCell ⟨k.rb,3,none⟩ k.pv).setCell ⟨k.rb,4,none⟩ odv).setCell ⟨k.rb,5,none⟩ lgv) = ((((((V1.setCell ⟨k.rb,0,none⟩ (.slice k.la k.n k.lc)).setCell ⟨k.rb,1,none⟩ k.av).setCell ⟨k.rb,2,none⟩ k.ov).setCell ⟨k.rb,3,none⟩ k.pv).setCell ⟨k.rb,4,none⟩ odv).setCell ⟨k.rb,5,none⟩ lgv):=norm_set (norm_set (norm_set (norm_set (norm_set (norm_set hn1 _ _) _ _) _ _) _ _) _ _) _ _
 show To0 Try.prog Post Z ((((((V1.setCell ⟨k.rb,0,none⟩ (.slice k.la k.n k.lc)).setCell ⟨k.rb,1,none⟩ k.av).setCell ⟨k.rb,2,none⟩ k.ov).setCell ⟨k.rb,3,none⟩ k.pv).setCell ⟨k.rb,4,none⟩ odv).setCell ⟨k.rb,5,none⟩ lgv) _
 generalize ((((((V1.setCell ⟨k.rb,0,none⟩ (.slice k.la k.n k.lc)).setCell ⟨k.rb,1,none⟩ k.av).setCell ⟨k.rb,2,none⟩ k.ov).setCell ⟨k.rb,3,none⟩ k.pv).setCell ⟨k.rb,4,none⟩ odv).setCell ⟨k.rb,5,none⟩ lgv) = V2 at *
 refine mu_ret mu_to0 ?_
 have hoff : ∀ b,b ≠ k.sb → b ≠ k.rb → V2.heap[b]? = V.heap[b]?:=fun b g1 g2=>(hs2 b g2).trans (hs1 b g1)
 have E : TEn k at_ lg fo fp xs V2 odv lgv:=by
   refine ⟨hn2,⟨by have:=I.kp.size; omega,fun b hb=>by rw [hoff b (by omega) (by omega)]; exact I.kp.keep b hb⟩,row_keep I.a fun b hb=>hoff b (fun e=>?_) (fun e=>?_),row_keep I.o fun b hb=>hoff b (fun e=>?_) (fun e=>?_),row_keep I.q fun b hb=>hoff b (fun e=>?_) (fun e=>?_),row_keep I.od fun b hb=>hoff b (fun e=>own_tyK I.od I.sbc (by decide) (e ▸ hb)) (fun e=>own_tyK I.od I.rbc (by decide) (e ▸ hb)),row_keep I.lg fun b hb=>hoff b (fun e=>own_tyK I.lg I.sbc (by decide) (e ▸ hb)) (fun e=>own_tyK I.lg I.rbc (by decide) (e ▸ hb))⟩
   · subst e; exact n2 (Option.some.inj (show some k.ga = some k.sb from hb))
   · subst e; exact n3 (Option.some.inj (show some k.ga = some k.rb from hb))
   · subst e; exact n4 (Option.some.inj (show some k.go = some k.sb from hb))
   · subst e; exact n5 (Option.some.inj (show some k.go = some k.rb from hb))
   · subst e; exact n6 (Option.some.inj (show some k.gp = some k.sb from hb))
   · subst e; exact n7 (Option.some.inj (show some k.gp = some k.rb from hb))
 have KE:=K0 V2 E
 have I0:=I.od
 have I1:=I.lg
 clear K0 E hoff hs1 hs2 hz1 hz2 e1 hrb1 I
 obtain ⟨hs,t1,t2,t4,t5,t6,t7⟩:=hT2
 have hg : T2.getD 4 undef = .pointer (some ⟨k.rb,0,none⟩):=by simp [Array.getD_eq_getD_getElem?,t4]
 refine To0.walk (will_leave (fn:=Try.f76) rfl rfl Try.func76 (v:=.agg #[.slice k.la k.n k.lc,k.av,k.ov,k.pv,odv,lgv]) (fun τ=>?_) (Will.stop ?_))
 · have r0 : (re V2 τ 0).cell? ⟨k.rb,0,none⟩ = some (.slice k.la k.n k.lc):=cell_of e2 (by simp)
   have r1 : (re V2 τ 0).cell? ⟨k.rb,1,none⟩ = some k.av:=cell_of e2 (by simp)
   have r2 : (re V2 τ 0).cell? ⟨k.rb,2,none⟩ = some k.ov:=cell_of e2 (by simp)
   have r3 : (re V2 τ 0).cell? ⟨k.rb,3,none⟩ = some k.pv:=cell_of e2 (by simp)
   have r4 : (re V2 τ 0).cell? ⟨k.rb,4,none⟩ = some odv:=cell_of e2 (by simp)
   have r5 : (re V2 τ 0).cell? ⟨k.rb,5,none⟩ = some lgv:=cell_of e2 (by simp)
   unfold Tk.av Tk.ov Tk.pv at *
   obtain ⟨ox,on,oc,rfl⟩:=slice_of I0
   obtain ⟨lx,ln,lc,rfl⟩:=slice_ofR I1
   simp only [results,Try.f76,List.mapM_toArray,List.mapM_cons,List.mapM_nil,Sem.run_bind,hg]
   go_simp
 · rw [Frame.finish_at]
   exact KE
end
end Go.Proofs.Ytibcdikfbhmheaa

namespace Go.Proofs.Ytibcdikfbhmheaa
open Go Go.Conc Go.Proofs
open Go.ConcN (sumTo upd sumTo_upd upd_ne upd_same)
set_option linter.unusedVariables false
noncomputable def T2n : Code:=nvb T1t
theorem T2n_eq : T2n = .seq R9t (.seq R10n (.seq W1n (.seq W2n (.seq W3n F17n)))):=by simp only [T2n,nvc2,R18n,R19n,R20n,R21n,R22n,R10n,W1n,W2n,W3n,F17n,R8t,R9t,TY,T1t,TL,TZ,X6t,B76,nva,nvb,nvk,nvl,Try.f76,Option.getD_some]
noncomputable def R7n : Code:=nva (nva TL)
theorem TZ_eq : TZ = .seq R20n (.seq R21n (.seq R22n .ret)):=by simp only [nvc2,R18n,R19n,R20n,R21n,R22n,R10n,W1n,W2n,W3n,F17n,R8t,R9t,TY,T1t,TL,TZ,X6t,B76,nva,nvb,nvk,nvl,Try.f76,Option.getD_some]
section
variable {k : Tk} {at_ : Nat → Nat} {lg : List (Nat × Nat)} {fo fp : Nat → Bool} {xs : List Nat} {V : World} {odv lgv : Value} {Z : Cuts} {Post : Value → World → Prop} {T : Array Value} {kt : List Item} {b₀ : Frame} {a₀ : Act} {ops₀ : Array Oper} {i₀ : Nat} {rest₀ : List Nat} {k₀ : List Item} {cs0 : List Frame}
theorem t_r7 {n i sb rb ga go gp ca oc pc g o len rc lc p : Nat} {r : Option Addr} (hn : norm V = V) (hi : i < n) (ca' : V.cell? ⟨ga,i,none⟩ = some (.int .i64 (p : Int))) (cb' : V.cell? ⟨sb,0,none⟩ = some (.slice (some ⟨g,o,none⟩) n lc)) (cc' : V.cell? ⟨g,o + i,none⟩ = some (.slice r len rc)) (hT : HT9 T i sb rb (.slice (some ⟨ga,0,none⟩) n ca) (.slice (some ⟨go,0,none⟩) n oc) (.slice (some ⟨gp,0,none⟩) n pc))
   (K : ∀ T',HT9 T' i sb rb (.slice (some ⟨ga,0,none⟩) n ca) (.slice (some ⟨go,0,none⟩) n oc) (.slice (some ⟨gp,0,none⟩) n pc) → T'[52]? = some (.bool (decide ((p : Int) < (len : Int)))) → To0 Try.prog Post Z V (G ((base 76).at ⟨T',[]⟩ kt) cs0)) :
   To0 Try.prog Post Z V (G ((base 76).at ⟨T,[]⟩ (.code R7n :: kt)) cs0):=by
 refine To0.walk (will_code (L:=Lone) (R:=fun a' V'=>V' = V ∧ HT9 a'.tmps i sb rb (.slice (some ⟨ga,0,none⟩) n ca) (.slice (some ⟨go,0,none⟩) n oc) (.slice (some ⟨gp,0,none⟩) n pc) ∧ a'.tmps[52]? = some (.bool (decide ((p : Int) < (len : Int))))) calm rfl ⟨_,Try.func76⟩ rfl (by kernel_rfl) (fun τ=>?_) fun a' V' ⟨q0,q1,q2⟩ ha'=>Will.stop ?_)
 · obtain ⟨hs,t1,t2,t4,t5,t6,t7⟩:=hT
   have q1 : ¬ ((i : Int) < 0):=by omega
   have q2 : ¬ ((n : Int) ≤ (i : Int)):=by omega
   have d1 : (re V τ 0).cell? ⟨ga,i,none⟩ = some (.int .i64 (p : Int)):=ca'
   have d2 : (re V τ 0).cell? ⟨sb,0,none⟩ = some (.slice (some ⟨g,o,none⟩) n lc):=cb'
   have d3 : (re V τ 0).cell? ⟨g,o + i,none⟩ = some (.slice r len rc):=cc'
   clear K ca' cb' cc'
   obtain ⟨f,hf,hT⟩:=array150f T hs
   have et1:=hf 1 _ t1
   have et2:=hf 2 _ t2
   have et4:=hf 4 _ t4
   have et5:=hf 5 _ t5
   have et6:=hf 6 _ t6
   have et7:=hf 7 _ t7
   clear hf hs t1 t2 t4 t5 t6 t7
   subst hT
   simp only [et1,et2,et4,et5,et6,et7]
   clear et1 et2 et4 et5 et6 et7
   simp only [R7n,nvc2,R18n,R19n,R20n,R21n,R22n,R10n,W1n,W2n,W3n,F17n,R8t,R9t,TY,T1t,TL,TZ,X6t,B76,nva,nvb,nvk,nvl,Try.f76,Option.getD_some]
   go_wp2
   go_quiet (fail)
   go_wp2
   exact ⟨hn,⟨by simp,rfl,rfl,rfl,rfl,rfl,rfl⟩⟩
 · obtain ⟨T',df⟩:=a'
   simp only at ha' q1 q2
   subst ha' q0
   exact K T' q1 q2
theorem t_test (O : k.Ok) (I : TI k at_ lg fo fp xs V odv lgv) {g o len rc p : Nat} {r : Option Addr} (hla : k.la = some ⟨g,o,none⟩) (hc : V.cell? ⟨g,o + k.i,none⟩ = some (.slice r len rc)) (hp : at_ k.i = p) (hT : HT9 T k.i k.sb k.rb k.av k.ov k.pv)
   (K1 : p < len → ∀ T',HT9 T' k.i k.sb k.rb k.av k.ov k.pv → To0 Try.prog Post Z V (G ((base 76).at ⟨T',[]⟩ [.code R8t,.code T2n,.inBlock 1,.inLoop TL,.inBlock 0,.code TZ]) cs0))
   (K2 : ¬ p < len → ∀ T',HT9 T' k.i k.sb k.rb k.av k.ov k.pv → To0 Try.prog Post Z V (G ((base 76).at ⟨T',[]⟩ [.code TZ]) cs0)) :
   To0 Try.prog Post Z V (G ((base 76).at ⟨T,[]⟩ [.code TL,.inLoop TL,.inBlock 0,.code TZ]) cs0):=by
 have e1 : TL = .seq (.seq R7n (.cond (.tmp 52) .skip (.exit 0))) (.block 1 T1t):=by simp only [R7n,nvc2,R18n,R19n,R20n,R21n,R22n,R10n,W1n,W2n,W3n,F17n,R8t,R9t,TY,T1t,TL,TZ,X6t,B76,nva,nvb,nvk,nvl,Try.f76,Option.getD_some]
 have e2 : T1t = .seq R8t T2n:=by simp only [T2n,nvc2,R18n,R19n,R20n,R21n,R22n,R10n,W1n,W2n,W3n,F17n,R8t,R9t,TY,T1t,TL,TZ,X6t,B76,nva,nvb,nvk,nvl,Try.f76,Option.getD_some]
 rw [e2] at e1
 refine (fun (h : ∀ Y,Y = TL → To0 Try.prog Post Z V (G ((base 76).at ⟨T,[]⟩ [.code Y,.inLoop TL,.inBlock 0,.code TZ]) cs0))=>h _ rfl) ?_
 intro Y hY
 rw [e1] at hY
 subst hY
 refine mu_seq mu_to0 (mu_seq mu_to0 ?_)
 refine t_r7 (lc:=k.lc) (p:=p) I.nrm O.hi (by rw [← hp]; exact (row_cell I.a (rowN_at O.hi)).1) (by rw [← hla]; exact cell_of I.sbc (by simp)) hc hT fun T' hT' h52=>?_
 by_cases hx : p < len
 · refine mu_cond mu_to0 true (by rw [show decide ((p : Int) < (len : Int)) = true from decide_eq_true (by omega)] at h52; show T'.getD 52 undef = _; simp [Array.getD_eq_getD_getElem?,h52]) ?_
   refine mu_skip mu_to0 (mu_block mu_to0 (mu_seq mu_to0 ?_))
   exact K1 hx T' hT'
 · refine mu_cond mu_to0 false (by rw [show decide ((p : Int) < (len : Int)) = false from decide_eq_false (by omega)] at h52; show T'.getD 52 undef = _; simp [Array.getD_eq_getD_getElem?,h52]) ?_
   refine mu_exit mu_to0 rfl ?_
   exact K2 hx T' hT'
theorem t_f17 (O : k.Ok) (I : TI k at_ lg fo fp xs V odv lgv) {tb : Nat} {d : Int} (hc : V.cell? ⟨tb,0,none⟩ = some (.int .i64 d)) (hT : HT9 T k.i k.sb k.rb k.av k.ov k.pv) (h8 : T[8]? = some (.pointer (some ⟨tb,0,none⟩)))
   (K1 : (d = 0 ∨ d = 1 ∨ fo k.i = true) → ∀ T',HT9 T' k.i k.sb k.rb k.av k.ov k.pv → To0 Try.prog Post Z V (G ((base 76).at ⟨T',[]⟩ (.code (.seq R18n (.seq R19n .ret)) :: kt)) cs0))
   (K2 : ¬ (d = 0 ∨ d = 1 ∨ fo k.i = true) → ∀ T',HT9 T' k.i k.sb k.rb k.av k.ov k.pv → To0 Try.prog Post Z V (G ((base 76).at ⟨T',[]⟩ kt) cs0)) :
   To0 Try.prog Post Z V (G ((base 76).at ⟨T,[]⟩ (.code F17n :: kt)) cs0):=by
 have hn:=I.nrm
 have hi:=O.hi
 obtain ⟨hs,t1,t2,t4,t5,t6,t7⟩:=hT
 have q1 : ¬ ((k.i : Int) < 0):=by omega
 have q2 : ¬ ((k.n : Int) ≤ (k.i : Int)):=by omega
 have d1 : ∀ τ,(re V τ 0).cell? ⟨tb,0,none⟩ = some (.int .i64 d):=fun τ=>hc
 have d2 : ∀ τ,(re V τ 0).cell? ⟨k.go,k.i,none⟩ = some (.bool (fo k.i)):=fun τ=>(row_cell I.o (rowB_at hi)).1
 have e1 : k.av = .slice (some ⟨k.ga,0,none⟩) k.n k.ca:=rfl
 have e2 : k.ov = .slice (some ⟨k.go,0,none⟩) k.n k.oc:=rfl
 have e3 : k.pv = .slice (some ⟨k.gp,0,none⟩) k.n k.pc:=rfl
 rw [e1] at t5
 rw [e2] at t6
 rw [e3] at t7
 rw [e1,e2,e3] at K1 K2
 clear I O hc e1 e2 e3
 generalize fo k.i = ob at *
 generalize k.i = i at *
 generalize k.sb = sb at *
 generalize k.rb = rb at *
 generalize k.ga = ga at *
 generalize k.go = go at *
 generalize k.gp = gp at *
 generalize k.n = n at *
 generalize k.ca = ca at *
 generalize k.oc = oc at *
 generalize k.pc = pc at *
 by_cases h0 : d = 0
 · have K1':=K1 (.inl h0)
   have g1 : (d == 0) = true:=by simp [h0]
   clear K1 K2 h0
   obtain ⟨f,hf,hT⟩:=array150f T hs
   have et1:=hf 1 _ t1
   have et2:=hf 2 _ t2
   have et4:=hf 4 _ t4
   have et5:=hf 5 _ t5
   have et6:=hf 6 _ t6
   have et7:=hf 7 _ t7
   have eh8:=hf 8 _ h8
   clear hf hs t1 t2 t4 t5 t6 t7 h8
   subst hT
   simp only [et1,et2,et4,et5,et6,et7,eh8]
   clear et1 et2 et4 et5 et6 et7 eh8
   refine (fun (h : ∀ X0,X0 = F17n → To0 Try.prog Post Z V (G ((base 76).at ⟨_,[]⟩ (.code X0 :: kt)) cs0))=>h F17n rfl) ?_
   intro X0 hX0
   simp only [nvc2,R18n,R19n,R20n,R21n,R22n,R10n,W1n,W2n,W3n,F17n,R8t,R9t,TY,T1t,TL,TZ,X6t,B76,nva,nvb,nvk,nvl,Try.f76,Option.getD_some] at hX0
   subst hX0
   obtain ⟨K,hK,hV,key,yek⟩:=kKV (L:=Lone) (J:=fun g=>To0 Try.prog Post Z V g) mu_to0 (muv_to0 hn)
   refine key _ ?_
   refine mu_seq hK ?_
   repeat (first|(with_reducible first|(refine mu_region_end hK ?_;try subst hkk)|refine mu_block hK ?_|refine mu_inBlock hK ?_|refine mu_ret hK ?_|refine mu_end hK ?_)|refine mu_exit hK rfl ?_|(with_reducible refine mu_regionH hK (fun kk hkk=>?_); simp only [List.size_toArray,List.length_cons,List.length_nil,Nat.reduceAdd,Nat.zero_add,List.range,List.range.loop])|(with_reducible refine mu_cf hK ?_ ?_;(· first | (walk_nrm; done) | (simp [Act.eval]; done)))|(with_reducible refine mu_ct hK ?_ ?_;(· first | (walk_nrm; done) | (simp [Act.eval]; done)))|(refine mu_unwanted hK rfl rfl ?_; walk_nrm)|(refine muv_val hV rfl (by first | exact .inl rfl | exact .inr rfl) rfl (by kernel_rfl) (fun J hJ=>?_); go_simp; with_reducible refine hJ _ ?_; clear hJ J; walk_nrm))
   refine yek _ ?_
   clear hK hV key yek K
   refine (fun (h : ∀ Y0,Code.seq R18n (.seq R19n .ret) = Y0 → To0 Try.prog Post Z V (G ((base 76).at _ (.code Y0 :: kt)) cs0))=>h _ (by simp only [nvc2,R18n,R19n,R20n,R21n,R22n,R10n,W1n,W2n,W3n,F17n,R8t,R9t,TY,T1t,TL,TZ,X6t,B76,nva,nvb,nvk,nvl,Try.f76,Option.getD_some])) ?_
   intro Y0 hY0
   subst hY0
   exact K1' _ ⟨by simp,rfl,rfl,rfl,rfl,rfl,rfl⟩
 by_cases h1 : d = 1
 · have K1':=K1 (.inr (.inl h1))
   have g1 : (d == 0) = false:=by simp [h0]
   have g2 : (d == 1) = true:=by simp [h1]
   clear K1 K2 h0 h1
   obtain ⟨f,hf,hT⟩:=array150f T hs
   have et1:=hf 1 _ t1
   have et2:=hf 2 _ t2
   have et4:=hf 4 _ t4
   have et5:=hf 5 _ t5
   have et6:=hf 6 _ t6
   have et7:=hf 7 _ t7
   have eh8:=hf 8 _ h8
   clear hf hs t1 t2 t4 t5 t6 t7 h8
   subst hT
   simp only [et1,et2,et4,et5,et6,et7,eh8]
   clear et1 et2 et4 et5 et6 et7 eh8
   refine (fun (h : ∀ X0,X0 = F17n → To0 Try.prog Post Z V (G ((base 76).at ⟨_,[]⟩ (.code X0 :: kt)) cs0))=>h F17n rfl) ?_
   intro X0 hX0
   simp only [nvc2,R18n,R19n,R20n,R21n,R22n,R10n,W1n,W2n,W3n,F17n,R8t,R9t,TY,T1t,TL,TZ,X6t,B76,nva,nvb,nvk,nvl,Try.f76,Option.getD_some] at hX0
   subst hX0
   obtain ⟨K,hK,hV,key,yek⟩:=kKV (L:=Lone) (J:=fun g=>To0 Try.prog Post Z V g) mu_to0 (muv_to0 hn)
   refine key _ ?_
   refine mu_seq hK ?_
   repeat (first|(with_reducible first|(refine mu_region_end hK ?_;try subst hkk)|refine mu_block hK ?_|refine mu_inBlock hK ?_|refine mu_ret hK ?_|refine mu_end hK ?_)|refine mu_exit hK rfl ?_|(with_reducible refine mu_regionH hK (fun kk hkk=>?_); simp only [List.size_toArray,List.length_cons,List.length_nil,Nat.reduceAdd,Nat.zero_add,List.range,List.range.loop])|(with_reducible refine mu_cf hK ?_ ?_;(· first | (walk_nrm; done) | (simp [Act.eval]; done)))|(with_reducible refine mu_ct hK ?_ ?_;(· first | (walk_nrm; done) | (simp [Act.eval]; done)))|(refine mu_unwanted hK rfl rfl ?_; walk_nrm)|(refine muv_val hV rfl (by first | exact .inl rfl | exact .inr rfl) rfl (by kernel_rfl) (fun J hJ=>?_); go_simp; with_reducible refine hJ _ ?_; clear hJ J; walk_nrm))
   refine yek _ ?_
   clear hK hV key yek K
   refine (fun (h : ∀ Y0,Code.seq R18n (.seq R19n .ret) = Y0 → To0 Try.prog Post Z V (G ((base 76).at _ (.code Y0 :: kt)) cs0))=>h _ (by simp only [nvc2,R18n,R19n,R20n,R21n,R22n,R10n,W1n,W2n,W3n,F17n,R8t,R9t,TY,T1t,TL,TZ,X6t,B76,nva,nvb,nvk,nvl,Try.f76,Option.getD_some])) ?_
   intro Y0 hY0
   subst hY0
   exact K1' _ ⟨by simp,rfl,rfl,rfl,rfl,rfl,rfl⟩
 have g1 : (d == 0) = false:=by simp [h0]
 have g2 : (d == 1) = false:=by simp [h1]
 cases ob with
 | true =>
   have K1':=K1 (.inr (.inr rfl))
   clear K1 K2 h0 h1
   obtain ⟨f,hf,hT⟩:=array150f T hs
   have et1:=hf 1 _ t1
   have et2:=hf 2 _ t2
   have et4:=hf 4 _ t4
   have et5:=hf 5 _ t5
   have et6:=hf 6 _ t6
   have et7:=hf 7 _ t7
   have eh8:=hf 8 _ h8
   clear hf hs t1 t2 t4 t5 t6 t7 h8
   subst hT
   simp only [et1,et2,et4,et5,et6,et7,eh8]
   clear et1 et2 et4 et5 et6 et7 eh8
   refine (fun (h : ∀ X0,X0 = F17n → To0 Try.prog Post Z V (G ((base 76).at ⟨_,[]⟩ (.code X0 :: kt)) cs0))=>h F17n rfl) ?_
   intro X0 hX0
   simp only [nvc2,R18n,R19n,R20n,R21n,R22n,R10n,W1n,W2n,W3n,F17n,R8t,R9t,TY,T1t,TL,TZ,X6t,B76,nva,nvb,nvk,nvl,Try.f76,Option.getD_some] at hX0
   subst hX0
   obtain ⟨K,hK,hV,key,yek⟩:=kKV (L:=Lone) (J:=fun g=>To0 Try.prog Post Z V g) mu_to0 (muv_to0 hn)
   refine key _ ?_
   refine mu_seq hK ?_
   repeat (first|(with_reducible first|(refine mu_region_end hK ?_;try subst hkk)|refine mu_block hK ?_|refine mu_inBlock hK ?_|refine mu_ret hK ?_|refine mu_end hK ?_)|refine mu_exit hK rfl ?_|(with_reducible refine mu_regionH hK (fun kk hkk=>?_); simp only [List.size_toArray,List.length_cons,List.length_nil,Nat.reduceAdd,Nat.zero_add,List.range,List.range.loop])|(with_reducible refine mu_cf hK ?_ ?_;(· first | (walk_nrm; done) | (simp [Act.eval]; done)))|(with_reducible refine mu_ct hK ?_ ?_;(· first | (walk_nrm; done) | (simp [Act.eval]; done)))|(refine mu_unwanted hK rfl rfl ?_; walk_nrm)|(refine muv_val hV rfl (by first | exact .inl rfl | exact .inr rfl) rfl (by kernel_rfl) (fun J hJ=>?_); go_simp; with_reducible refine hJ _ ?_; clear hJ J; walk_nrm))
   refine yek _ ?_
   clear hK hV key yek K
   refine (fun (h : ∀ Y0,Code.seq R18n (.seq R19n .ret) = Y0 → To0 Try.prog Post Z V (G ((base 76).at _ (.code Y0 :: kt)) cs0))=>h _ (by simp only [nvc2,R18n,R19n,R20n,R21n,R22n,R10n,W1n,W2n,W3n,F17n,R8t,R9t,TY,T1t,TL,TZ,X6t,B76,nva,nvb,nvk,nvl,Try.f76,Option.getD_some])) ?_
   intro Y0 hY0
   subst hY0
   exact K1' _ ⟨by simp,rfl,rfl,rfl,rfl,rfl,rfl⟩
 | false =>
   have K2':=K2 (by simp [h0,h1])
   clear K1 K2 h0 h1
   obtain ⟨f,hf,hT⟩:=array150f T hs
   have et1:=hf 1 _ t1
   have et2:=hf 2 _ t2
   have et4:=hf 4 _ t4
   have et5:=hf 5 _ t5
   have et6:=hf 6 _ t6
   have et7:=hf 7 _ t7
   have eh8:=hf 8 _ h8
   clear hf hs t1 t2 t4 t5 t6 t7 h8
   subst hT
   simp only [et1,et2,et4,et5,et6,et7,eh8]
   clear et1 et2 et4 et5 et6 et7 eh8
   refine (fun (h : ∀ X0,X0 = F17n → To0 Try.prog Post Z V (G ((base 76).at ⟨_,[]⟩ (.code X0 :: kt)) cs0))=>h F17n rfl) ?_
   intro X0 hX0
   simp only [nvc2,R18n,R19n,R20n,R21n,R22n,R10n,W1n,W2n,W3n,F17n,R8t,R9t,TY,T1t,TL,TZ,X6t,B76,nva,nvb,nvk,nvl,Try.f76,Option.getD_some] at hX0
   subst hX0
   obtain ⟨K,hK,hV,key,yek⟩:=kKV (L:=Lone) (J:=fun g=>To0 Try.prog Post Z V g) mu_to0 (muv_to0 hn)
   refine key _ ?_
   refine mu_seq hK ?_
   repeat (first|(with_reducible first|(refine mu_region_end hK ?_;try subst hkk)|refine mu_block hK ?_|refine mu_inBlock hK ?_|refine mu_ret hK ?_|refine mu_end hK ?_)|refine mu_exit hK rfl ?_|(with_reducible refine mu_regionH hK (fun kk hkk=>?_); simp only [List.size_toArray,List.length_cons,List.length_nil,Nat.reduceAdd,Nat.zero_add,List.range,List.range.loop])|(with_reducible refine mu_cf hK ?_ ?_;(· first | (walk_nrm; done) | (simp [Act.eval]; done)))|(with_reducible refine mu_ct hK ?_ ?_;(· first | (walk_nrm; done) | (simp [Act.eval]; done)))|(refine mu_unwanted hK rfl rfl ?_; walk_nrm)|(refine muv_val hV rfl (by first | exact .inl rfl | exact .inr rfl) rfl (by kernel_rfl) (fun J hJ=>?_); go_simp; with_reducible refine hJ _ ?_; clear hJ J; walk_nrm))
   refine mu_skip hK ?_
   refine yek _ ?_
   clear hK hV key yek K
   exact K2' _ ⟨by simp,rfl,rfl,rfl,rfl,rfl,rfl⟩
end
end Go.Proofs.Ytibcdikfbhmheaa
