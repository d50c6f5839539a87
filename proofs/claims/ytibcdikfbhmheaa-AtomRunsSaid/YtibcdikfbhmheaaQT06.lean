import Derived.Test.YtibcdikfbhmheaaQT01
import Derived.Test.YtibcdikfbhmheaaB14
import Derived.Test.YtibcdikfbhmheaaQT05
set_option linter.unusedSimpArgs false
set_option linter.unusedVariables false
set_option maxRecDepth 100000
set_option maxHeartbeats 4000000
namespace Go.Proofs.Ytibcdikfbhmheaa
open Go Go.Conc Go.Proofs
open Go.ConcN (sumTo upd sumTo_upd upd_ne upd_same)
set_option linter.unusedVariables false
def Fxg : List (Nat × Value) → Array Value → Prop
 | [],_=>True
 | (j,v) :: l,T=>T[j]? = some v ∧ Fxg l T
def Fg (z : Nat) (l : List (Nat × Value)) (T : Array Value) : Prop:=T.size = z ∧ Fxg l T
theorem reg_go {Post : Value → World → Prop} {Z : Cuts} {V V1 : World} {F z : Nat} {l : List (Nat × Value)} {T : Array Value} {c : Code} {kt : List Item} {cs : List Frame} (hf : ∃ fn,Try.prog.funcs[F]? = some fn) (hs : shut Try.prog Lone [] c = true)
   (K : ∀ T',Fg z l T' → To0 Try.prog Post Z V1 (G ((base F).at ⟨T',[]⟩ kt) cs)) (hC : ∀ τ,c.wp Try.prog (fun e a' w'=>match e with | .normal=>(norm w' = V1 ∧ Fg z l a'.tmps) ∧ a'.defers = [] | _=>False) ⟨T,[]⟩ (re V τ 0)) : To0 Try.prog Post Z V (G ((base F).at ⟨T,[]⟩ (.code c :: kt)) cs) :=
 To0.walk (will_code (L:=Lone) (R:=fun aa V'=>V' = V1 ∧ Fg z l aa.tmps) calm rfl hf rfl hs hC fun a' V' ⟨q0,gs⟩ ha'=>Will.stop (by
   obtain ⟨T',df⟩:=a'
   simp only at ha' gs
   subst ha' q0
   exact K T' gs))
theorem reg_gb {Post : Value → World → Prop} {Z : Cuts} {V V1 : World} {F z j : Nat} {x : Bool} {l : List (Nat × Value)} {T : Array Value} {c : Code} {kt : List Item} {cs : List Frame} (hf : ∃ fn,Try.prog.funcs[F]? = some fn) (hs : shut Try.prog Lone [] c = true)
   (K : ∀ T',Fg z l T' → T'[j]? = some (.bool x) → To0 Try.prog Post Z V1 (G ((base F).at ⟨T',[]⟩ kt) cs)) (hC : ∀ τ,c.wp Try.prog (fun e a' w'=>match e with | .normal=>(norm w' = V1 ∧ Fg z l a'.tmps ∧ a'.tmps[j]? = some (.bool x)) ∧ a'.defers = [] | _=>False) ⟨T,[]⟩ (re V τ 0)) : To0 Try.prog Post Z V (G ((base F).at ⟨T,[]⟩ (.code c :: kt)) cs) :=
 To0.walk (will_code (L:=Lone) (R:=fun aa V'=>V' = V1 ∧ Fg z l aa.tmps ∧ aa.tmps[j]? = some (.bool x)) calm rfl hf rfl hs hC fun a' V' ⟨q0,gs,gb⟩ ha'=>Will.stop (by
   obtain ⟨T',df⟩:=a'
   simp only at ha' gs gb
   subst ha' q0
   exact K T' gs gb))
theorem app_noneA {t e : TypeId} {z : Value} {sz B : Nat} (ht : Try.prog.underlying t = some (.slice e)) (hi : (Try.prog.info? e).map (fun i=>(i.zero,i.size,i.bytes)) = some (some z,sz,B)) {b : Option Addr} {n c c' : Nat} (hc : n ≤ c) (w : World) :
   (Builtin.append_ #[t,t] t #[.slice b n c,.slice none 0 c']).run Try.prog w = .ok (.slice b n c) w:=by
 obtain ⟨i0,hi0,hz⟩ : ∃ i0,Try.prog.info? e = some i0 ∧ (i0.zero,i0.size,i0.bytes) = (some z,sz,B):=by
   cases e : Try.prog.info? e with
   | none=>rw [e] at hi; cases hi
   | some i0=>rw [e] at hi; exact ⟨i0,rfl,by simpa using hi⟩
 have hs : (sizeOf e).run Try.prog w = .ok i0.size w:=by simp [sizeOf,typeInfo,hi0]
 cases b with
 | none=>simp [Builtin.append_,run_underlying ht,hs,Builtin.lenOf,Builtin.firstCells,hc]
 | some a=>simp [Builtin.append_,run_underlying ht,hs,Builtin.lenOf,Builtin.firstCells,storeCells,hc]
theorem app_from {t e : TypeId} {z : Value} {sz B : Nat} (ht : Try.prog.underlying t = some (.slice e)) (hi : (Try.prog.info? e).map (fun i=>(i.zero,i.size,i.bytes)) = some (some z,sz,B)) (hzs : z.cells.size = sz) (hsz : 0 < sz) (hB : B ≤ 100) {V : World} {v : Value} {n m c : Nat} {xs ys : List Value} {A : Option Addr} (hrow : V.ownsRow 0 e sz v n xs) (hy : ys.length = m * sz) (hsrc : 0 < m → ∃ g o,A = some ⟨g,o,none⟩ ∧ ∀ j u,ys[j]? = some u → V.cell? ⟨g,o + j,none⟩ = some u) (h1 : ∀ y ∈ ys,y.oneCell' = true) (hlen : n + m < 1000000000) :
   ∃ v' w',(Builtin.append_ #[t,t] t #[v,.slice A m c]).run Try.prog V = .ok v' w' ∧ w'.ownsRow 0 e sz v' (n + m) (xs ++ ys) ∧ Grw V w' v v':=by
 have hb : (n + m) * B ≤ 140737488355328:=by
   have : (n + m) * B ≤ (n + m) * 100:=Nat.mul_le_mul_left _ hB
   omega
 obtain ⟨i0,hi0,hz⟩ : ∃ i0,Try.prog.info? e = some i0 ∧ (i0.zero,i0.size,i0.bytes) = (some z,sz,B):=by
   cases e : Try.prog.info? e with
   | none=>rw [e] at hi; cases hi
   | some i0=>rw [e] at hi; exact ⟨i0,rfl,by simpa using hi⟩
 obtain ⟨hz0,hz1,hz2⟩ : i0.zero = some z ∧ i0.size = sz ∧ i0.bytes = B:=by simpa using hz
 by_cases hm : 0 < m
 · obtain ⟨g,o,rfl,hc⟩:=hsrc hm
   obtain ⟨v',w',a1,a2,a3,_,a5⟩:=run_append_own_at (P:=Try.prog) (w:=V) 0 t t e i0 z sz B ht hi0 hz0 hz1 hz2 hzs hsz v n xs hrow ⟨g,o,none⟩ m c ys hy (fun j u hu=>by rw [qadd]; exact hc j u hu) h1 (by simp only [maxLen]; omega) hb (Nat.zero_le _)
   exact ⟨v',w',a1,a2,a3.size,fun b hb hne=>a3.block b hb (fun e=>hne e.symm),a5⟩
 · obtain rfl : m = 0:=by omega
   have hy0 : ys = []:=by simpa using hy
   subst hy0
   cases A with
   | some a =>
     obtain ⟨v',w',a1,a2,a3,_,a5⟩:=run_append_own_at (P:=Try.prog) (w:=V) 0 t t e i0 z sz B ht hi0 hz0 hz1 hz2 hzs hsz v n xs hrow a 0 c [] hy (fun j u hu=>by simp at hu) h1 (by simp only [maxLen]; omega) hb (Nat.zero_le _)
     exact ⟨v',w',a1,a2,a3.size,fun b hb hne=>a3.block b hb (fun e=>hne e.symm),a5⟩
   | none =>
     obtain ⟨b,k,cc,rfl,hkc,rfl⟩ : ∃ b k c,v = .slice b k c ∧ k ≤ c ∧ k = n:=by
       obtain ⟨_,h2⟩:=hrow
       rcases h2 with ⟨rfl,rfl⟩ | ⟨g,cap,cur,rfl,_,_,h5,_⟩
       · exact ⟨_,_,_,rfl,Nat.le_refl _,rfl⟩
       · exact ⟨_,_,_,rfl,h5,rfl⟩
     refine ⟨_,_,app_noneA ht hi hkc _,?_,⟨Nat.le_refl _,fun _ _ _=>rfl,.inl rfl⟩⟩
     rw [List.append_nil,Nat.add_zero]
     exact hrow
end Go.Proofs.Ytibcdikfbhmheaa

namespace Go.Proofs.Ytibcdikfbhmheaa
open Go Go.Conc Go.Proofs
open Go.ConcN (sumTo upd sumTo_upd upd_ne upd_same)
set_option linter.unusedVariables false
theorem array161f (T : Array Value) (h : T.size = 161) : ∃ f : Nat → Value,(∀ i v,T[i]? = some v → f i = v) ∧ T = #[f 0,f 1,f 2,f 3,f 4,f 5,f 6,f 7,f 8,f 9,f 10,f 11,f 12,f 13,f 14,f 15,f 16,f 17,f 18,f 19,f 20,f 21,f 22,f 23,f 24,f 25,f 26,f 27,f 28,f 29,f 30,f 31,f 32,f 33,f 34,f 35,f 36,f 37,f 38,f 39,f 40,f 41,f 42,f 43,f 44,f 45,f 46,f 47,f 48,f 49,f 50,f 51,f 52,f 53,f 54,f 55,f 56,f 57,f 58,f 59,f 60,f 61,f 62,f 63,f 64,f 65,f 66,f 67,f 68,f 69,f 70,f 71,f 72,f 73,f 74,f 75,f 76,f 77,f 78,f 79,f 80,f 81,f 82,f 83,f 84,f 85,f 86,f 87,f 88,f 89,f 90,f 91,f 92,f 93,f 94,f 95,f 96,f 97,f 98,f 99,f 100,f 101,f 102,f 103,f 104,f 105,f 106,f 107,f 108,f 109,f 110,f 111,f 112,f 113,f 114,f 115,f 116,f 117,f 118,f 119,f 120,f 121,f 122,f 123,f 124,f 125,f 126,f 127,f 128,f 129,f 130,f 131,f 132,f 133,f 134,f 135,f 136,f 137,f 138,f 139,f 140,f 141,f 142,f 143,f 144,f 145,f 146,f 147,f 148,f 149,f 150,f 151,f 152,f 153,f 154,f 155,f 156,f 157,f 158,f 159,f 160]:=arrg T h
noncomputable def Z31 : Code:=Try.f31.body.getD .skip
noncomputable def zr0 : Code:=nva Z31
noncomputable def zr1 : Code:=nva (nvb Z31)
noncomputable def zr2 : Code:=nva (nvb (nvb Z31))
noncomputable def zr3 : Code:=nva (nvb (nvb (nvb Z31)))
noncomputable def zr4 : Code:=nva (nvb (nvb (nvb (nvb Z31))))
noncomputable def zr5 : Code:=nva (nvb (nvb (nvb (nvb (nvb Z31)))))
noncomputable def zr6 : Code:=nva (nvb (nvb (nvb (nvb (nvb (nvb Z31))))))
noncomputable def zx : Code:=nvb (nvb (nvb (nvb (nvb (nvb (nvb Z31))))))
noncomputable def zr7 : Code:=nva (nva zx)
noncomputable def zLA : Code:=nvl (nvk (nvb (nva zx)))
noncomputable def zy : Code:=nvb zx
noncomputable def zr11 : Code:=nva (nva zy)
noncomputable def zLB : Code:=nvl (nvk (nvb (nva zy)))
noncomputable def zr35 : Code:=nva (nvb zy)
noncomputable def zr8 : Code:=nva (nva zLA)
noncomputable def zr10 : Code:=nvk (nva (nvb zLA))
noncomputable def zr9 : Code:=nvb (nvb zLA)
noncomputable def zr12 : Code:=nva (nva zLB)
noncomputable def zr13 : Code:=nvb (nvb zLB)
noncomputable def zb14 : Code:=nvk (nva (nvb zLB))
noncomputable def zr14 : Code:=nva zb14
noncomputable def zc15 : Code:=nva (nvb zb14)
noncomputable def zb17 : Code:=nvb (nvb zb14)
noncomputable def zr17 : Code:=nva (nva zb17)
noncomputable def zr18 : Code:=nva (nvb zb17)
noncomputable def zb19 : Code:=nvb (nvb zb17)
noncomputable def zr19 : Code:=nva (nva zb19)
noncomputable def zb20 : Code:=nvd (nvb (nva zb19))
noncomputable def zr32 : Code:=nva (nvb zb19)
noncomputable def zb33 : Code:=nvb (nvb zb19)
noncomputable def zr33 : Code:=nva zb33
noncomputable def zr34 : Code:=nvd (nvb zb33)
noncomputable def zr20 : Code:=nva zb20
noncomputable def zr21 : Code:=nva (nvb zb20)
noncomputable def zb22 : Code:=nvb (nvb zb20)
noncomputable def zc22 : Code:=nva zb22
noncomputable def zc24 : Code:=nva (nvb zb22)
noncomputable def zc27 : Code:=nva (nvb (nvb zb22))
noncomputable def zb29 : Code:=nvb (nvb (nvb zb22))
noncomputable def zr29 : Code:=nva (nva zb29)
noncomputable def zr30 : Code:=nvd (nvb (nva zb29))
noncomputable def zr31 : Code:=nvb zb29
theorem Z31_eq : Z31 = .seq zr0 (.seq zr1 (.seq zr2 (.seq zr3 (.seq zr4 (.seq zr5 (.seq zr6 (.seq (.seq zr7 (.block 0 (.loop zLA))) (.seq (.seq zr11 (.block 2 (.loop zLB))) (.seq zr35 .ret))))))))):=by simp only [zr35,zLB,zr11,zy,zLA,zr7,zx,zr6,zr5,zr4,zr3,zr2,zr1,zr0,Z31,nva,nvb,nvk,nvl,Try.f31,Option.getD_some]
theorem zLA_eq : zLA = .seq (.seq zr8 (.cond (.tmp 34) .skip (.exit 0))) (.seq (.block 1 zr10) zr9):=by simp only [zr9,zr10,zr8,zLA,zx,Z31,nva,nvb,nvk,nvl,Try.f31,Option.getD_some]
theorem zLB_eq : zLB = .seq (.seq zr12 (.cond (.tmp 52) .skip (.exit 2))) (.seq (.block 3 zb14) zr13):=by simp only [zr13,zb14,zr12,zLB,zy,zx,Z31,nva,nvb,nvk,nvl,Try.f31,Option.getD_some]
theorem zb14_eq : zb14 = .seq zr14 (.seq zc15 (.seq (.seq zr17 (.cond (.tmp 77) (.exit 3) .skip)) (.seq zr18 (.seq (.seq zr19 (.cond (.tmp 85) zb20 .skip)) (.seq zr32 (.seq zr33 (.cond (.tmp 151) zr34 .skip))))))):=by simp only [zr34,zr33,zb33,zr32,zb20,zr19,zb19,zr18,zr17,zb17,zc15,zr14,zb14,zLB,zy,zx,Z31,nva,nvb,nvk,nvl,nvd,Try.f31,Option.getD_some]
theorem zb20_eq : zb20 = .seq zr20 (.seq zr21 (.seq zc22 (.seq zc24 (.seq zc27 (.seq (.seq zr29 (.cond (.tmp 128) zr30 .skip)) zr31))))):=by simp only [zr31,zr30,zr29,zb29,zc27,zc24,zc22,zb22,zr21,zr20,zb20,zb19,zb17,zb14,zLB,zy,zx,Z31,nva,nvb,nvk,nvl,nvd,Try.f31,Option.getD_some]
section
variable {V : World} {Z : Cuts} {Post : Value → World → Prop} {n lc pl pc Rn gd dc gb bc m vc k i b18 b19 p g o len rc : Nat} {la pa va r : Option Addr} {ov lv : Value} {v a nn od : Int} {T : Array Value} {kt : List Item} {cs0 : List Frame}
theorem z_r0 (hn : norm V = V) (hT : Fg 161 [(0,.slice la n lc),(1,.slice pa pl pc),(2,.int .i64 (Rn : Int))] T)
   (K : ∀ T',Fg 161 [(0,.slice la n lc),(1,.slice pa pl pc),(2,.int .i64 (Rn : Int))] T' → To0 Try.prog Post Z V (G ((base 31).at ⟨T',[]⟩ kt) cs0)) :
   To0 Try.prog Post Z V (G ((base 31).at ⟨T,[]⟩ (.code zr0 :: kt)) cs0):=by
 refine reg_go ⟨_,Try.func31⟩ (by kernel_rfl) K fun τ=>?_
 clear K
 obtain ⟨hs,h0,h1,h2,-⟩:=hT
 obtain ⟨f,hf,hT⟩:=array161f T hs
 rw [hT]
 simp only [hf _ _ h0,hf _ _ h1,hf _ _ h2]
 clear hf hs h0 h1 h2
 subst hT
 simp only [zr0,Z31,nva,Try.f31,Option.getD_some]
 go_wp2_with fail
 exact ⟨hn,⟨by simp,rfl,rfl,rfl,trivial⟩⟩
theorem z_r1 (hn : norm V = V) (hT : Fg 161 [(0,.slice la n lc),(1,.slice pa pl pc),(2,.int .i64 (Rn : Int))] T)
   (K : ∀ T',Fg 161 [(0,.slice la n lc),(1,.slice pa pl pc),(2,.int .i64 (Rn : Int)),(9,.slice none 0 0)] T' → To0 Try.prog Post Z V (G ((base 31).at ⟨T',[]⟩ kt) cs0)) :
   To0 Try.prog Post Z V (G ((base 31).at ⟨T,[]⟩ (.code zr1 :: kt)) cs0):=by
 refine reg_go ⟨_,Try.func31⟩ (by kernel_rfl) K fun τ=>?_
 clear K
 obtain ⟨hs,h0,h1,h2,-⟩:=hT
 obtain ⟨f,hf,hT⟩:=array161f T hs
 rw [hT]
 simp only [hf _ _ h0,hf _ _ h1,hf _ _ h2]
 clear hf hs h0 h1 h2
 subst hT
 simp only [zr1,Z31,nva,nvb,Try.f31,Option.getD_some]
 go_wp2_with fail
 exact ⟨hn,⟨by simp,rfl,rfl,rfl,rfl,trivial⟩⟩
theorem z_r2 (hn : norm V = V) (hT : Fg 161 [(0,.slice la n lc),(1,.slice pa pl pc),(2,.int .i64 (Rn : Int)),(9,ov)] T)
   (K : ∀ T',Fg 161 [(0,.slice la n lc),(1,.slice pa pl pc),(2,.int .i64 (Rn : Int)),(9,ov),(10,.slice none 0 0)] T' → To0 Try.prog Post Z V (G ((base 31).at ⟨T',[]⟩ kt) cs0)) :
   To0 Try.prog Post Z V (G ((base 31).at ⟨T,[]⟩ (.code zr2 :: kt)) cs0):=by
 refine reg_go ⟨_,Try.func31⟩ (by kernel_rfl) K fun τ=>?_
 clear K
 obtain ⟨hs,h0,h1,h2,h9,-⟩:=hT
 obtain ⟨f,hf,hT⟩:=array161f T hs
 rw [hT]
 simp only [hf _ _ h0,hf _ _ h1,hf _ _ h2,hf _ _ h9]
 clear hf hs h0 h1 h2 h9
 subst hT
 simp only [zr2,Z31,nva,nvb,Try.f31,Option.getD_some]
 go_wp2_with fail
 exact ⟨hn,⟨by simp,rfl,rfl,rfl,rfl,rfl,trivial⟩⟩
theorem z_r3 (hn : norm V = V) (hT : Fg 161 [(0,.slice la n lc),(1,.slice pa pl pc),(2,.int .i64 (Rn : Int)),(9,ov),(10,lv)] T)
   (K : ∀ T',Fg 161 [(0,.slice la n lc),(1,.slice pa pl pc),(2,.int .i64 (Rn : Int)),(9,ov),(10,lv),(11,.int .i64 0)] T' → To0 Try.prog Post Z V (G ((base 31).at ⟨T',[]⟩ kt) cs0)) :
   To0 Try.prog Post Z V (G ((base 31).at ⟨T,[]⟩ (.code zr3 :: kt)) cs0):=by
 refine reg_go ⟨_,Try.func31⟩ (by kernel_rfl) K fun τ=>?_
 clear K
 obtain ⟨hs,h0,h1,h2,h9,h10,-⟩:=hT
 obtain ⟨f,hf,hT⟩:=array161f T hs
 rw [hT]
 simp only [hf _ _ h0,hf _ _ h1,hf _ _ h2,hf _ _ h9,hf _ _ h10]
 clear hf hs h0 h1 h2 h9 h10
 subst hT
 simp only [zr3,Z31,nva,nvb,Try.f31,Option.getD_some]
 go_wp2_with fail
 exact ⟨hn,⟨by simp,rfl,rfl,rfl,rfl,rfl,rfl,trivial⟩⟩
theorem z_r7 (hn : norm V = V) (hT : Fg 161 [(0,.slice la n lc),(2,.int .i64 (Rn : Int)),(9,ov),(10,lv),(11,.int .i64 v),(12,.slice (some ⟨gd,0,none⟩) n dc),(13,.slice (some ⟨gb,0,none⟩) n bc),(14,.slice va m vc)] T)
   (K : ∀ T',Fg 161 [(0,.slice la n lc),(2,.int .i64 (Rn : Int)),(9,ov),(10,lv),(11,.int .i64 v),(12,.slice (some ⟨gd,0,none⟩) n dc),(13,.slice (some ⟨gb,0,none⟩) n bc),(14,.slice va m vc),(15,.int .i64 0)] T' → To0 Try.prog Post Z V (G ((base 31).at ⟨T',[]⟩ kt) cs0)) :
   To0 Try.prog Post Z V (G ((base 31).at ⟨T,[]⟩ (.code zr7 :: kt)) cs0):=by
 refine reg_go ⟨_,Try.func31⟩ (by kernel_rfl) K fun τ=>?_
 clear K
 obtain ⟨hs,h0,h2,h9,h10,h11,h12,h13,h14,-⟩:=hT
 obtain ⟨f,hf,hT⟩:=array161f T hs
 rw [hT]
 simp only [hf _ _ h0,hf _ _ h2,hf _ _ h9,hf _ _ h10,hf _ _ h11,hf _ _ h12,hf _ _ h13,hf _ _ h14]
 clear hf hs h0 h2 h9 h10 h11 h12 h13 h14
 subst hT
 simp only [zr7,zx,Z31,nva,nvb,Try.f31,Option.getD_some]
 go_wp2_with fail
 exact ⟨hn,⟨by simp,rfl,rfl,rfl,rfl,rfl,rfl,rfl,rfl,rfl,trivial⟩⟩
theorem z_r8 (hn : norm V = V) (hm : Rn * n < 1000000) {x : Bool} (hx : decide ((k : Int) < ((Rn * n : Nat) : Int)) = x) (hT : Fg 161 [(0,.slice la n lc),(2,.int .i64 (Rn : Int)),(9,ov),(10,lv),(11,.int .i64 v),(12,.slice (some ⟨gd,0,none⟩) n dc),(13,.slice (some ⟨gb,0,none⟩) n bc),(14,.slice va m vc),(15,.int .i64 (k : Int))] T)
   (K : ∀ T',Fg 161 [(0,.slice la n lc),(2,.int .i64 (Rn : Int)),(9,ov),(10,lv),(11,.int .i64 v),(12,.slice (some ⟨gd,0,none⟩) n dc),(13,.slice (some ⟨gb,0,none⟩) n bc),(14,.slice va m vc),(15,.int .i64 (k : Int))] T' → T'[34]? = some (.bool x) → To0 Try.prog Post Z V (G ((base 31).at ⟨T',[]⟩ kt) cs0)) :
   To0 Try.prog Post Z V (G ((base 31).at ⟨T,[]⟩ (.code zr8 :: kt)) cs0):=by
 refine reg_gb ⟨_,Try.func31⟩ (by kernel_rfl) K fun τ=>?_
 clear K
 have w1 : IntKind.i64.wrap ((Rn : Int) * (n : Int)) = ((Rn * n : Nat) : Int):=by
   have e : (Rn : Int) * (n : Int) = ((Rn * n : Nat) : Int):=by simp
   rw [e,IntKind.wrap_i64]; omega
 generalize Rn * n = z at *
 obtain ⟨hs,h0,h2,h9,h10,h11,h12,h13,h14,h15,-⟩:=hT
 obtain ⟨f,hf,hT⟩:=array161f T hs
 rw [hT]
 simp only [hf _ _ h0,hf _ _ h2,hf _ _ h9,hf _ _ h10,hf _ _ h11,hf _ _ h12,hf _ _ h13,hf _ _ h14,hf _ _ h15]
 clear hf hs h0 h2 h9 h10 h11 h12 h13 h14 h15
 subst hT
 simp only [zr8,zLA,zx,Z31,nva,nvb,nvk,nvl,Try.f31,Option.getD_some]
 cases x <;> go_wp2_with fail
 all_goals (first | exact ⟨hn,⟨by simp,rfl,rfl,rfl,rfl,rfl,rfl,rfl,rfl,rfl,trivial⟩⟩ | exact ⟨hn,⟨by simp,rfl,rfl,rfl,rfl,rfl,rfl,rfl,rfl,rfl,trivial⟩,rfl⟩ | (exfalso; simp at hx; omega) | (exfalso; simp at hx hy; omega) | (refine ⟨hn,⟨by simp,rfl,rfl,rfl,rfl,rfl,rfl,rfl,rfl,rfl,trivial⟩,?_⟩; simp at hx ⊢; omega) | (refine ⟨hn,⟨by simp,rfl,rfl,rfl,rfl,rfl,rfl,rfl,rfl,rfl,trivial⟩,?_⟩; simp at hx hy ⊢; omega))
theorem z_r9 (hn : norm V = V) (hk : k < 1000000000) (hT : Fg 161 [(0,.slice la n lc),(2,.int .i64 (Rn : Int)),(9,ov),(10,lv),(11,.int .i64 v),(12,.slice (some ⟨gd,0,none⟩) n dc),(13,.slice (some ⟨gb,0,none⟩) n bc),(14,.slice va m vc),(15,.int .i64 (k : Int))] T)
   (K : ∀ T',Fg 161 [(0,.slice la n lc),(2,.int .i64 (Rn : Int)),(9,ov),(10,lv),(11,.int .i64 v),(12,.slice (some ⟨gd,0,none⟩) n dc),(13,.slice (some ⟨gb,0,none⟩) n bc),(14,.slice va m vc),(15,.int .i64 ((k + 1 : Nat) : Int))] T' → To0 Try.prog Post Z V (G ((base 31).at ⟨T',[]⟩ kt) cs0)) :
   To0 Try.prog Post Z V (G ((base 31).at ⟨T,[]⟩ (.code zr9 :: kt)) cs0):=by
 refine reg_go ⟨_,Try.func31⟩ (by kernel_rfl) K fun τ=>?_
 clear K
 have w1 : IntKind.i64.wrap ((k : Int) + 1) = ((k + 1 : Nat) : Int):=by rw [IntKind.wrap_i64]; omega
 obtain ⟨hs,h0,h2,h9,h10,h11,h12,h13,h14,h15,-⟩:=hT
 obtain ⟨f,hf,hT⟩:=array161f T hs
 rw [hT]
 simp only [hf _ _ h0,hf _ _ h2,hf _ _ h9,hf _ _ h10,hf _ _ h11,hf _ _ h12,hf _ _ h13,hf _ _ h14,hf _ _ h15]
 clear hf hs h0 h2 h9 h10 h11 h12 h13 h14 h15
 subst hT
 simp only [zr9,zLA,zx,Z31,nva,nvb,nvk,nvl,Try.f31,Option.getD_some]
 go_wp2_with fail
 exact ⟨hn,⟨by simp,rfl,rfl,rfl,rfl,rfl,rfl,rfl,rfl,rfl,trivial⟩⟩
theorem z_r11 (hn : norm V = V) (hT : Fg 161 [(0,.slice la n lc),(9,ov),(10,lv),(11,.int .i64 v),(12,.slice (some ⟨gd,0,none⟩) n dc),(13,.slice (some ⟨gb,0,none⟩) n bc),(14,.slice va m vc)] T)
   (K : ∀ T',Fg 161 [(0,.slice la n lc),(9,ov),(10,lv),(11,.int .i64 v),(12,.slice (some ⟨gd,0,none⟩) n dc),(13,.slice (some ⟨gb,0,none⟩) n bc),(14,.slice va m vc),(16,.int .i64 0)] T' → To0 Try.prog Post Z V (G ((base 31).at ⟨T',[]⟩ kt) cs0)) :
   To0 Try.prog Post Z V (G ((base 31).at ⟨T,[]⟩ (.code zr11 :: kt)) cs0):=by
 refine reg_go ⟨_,Try.func31⟩ (by kernel_rfl) K fun τ=>?_
 clear K
 obtain ⟨hs,h0,h9,h10,h11,h12,h13,h14,-⟩:=hT
 obtain ⟨f,hf,hT⟩:=array161f T hs
 rw [hT]
 simp only [hf _ _ h0,hf _ _ h9,hf _ _ h10,hf _ _ h11,hf _ _ h12,hf _ _ h13,hf _ _ h14]
 clear hf hs h0 h9 h10 h11 h12 h13 h14
 subst hT
 simp only [zr11,zy,zx,Z31,nva,nvb,Try.f31,Option.getD_some]
 go_wp2_with fail
 exact ⟨hn,⟨by simp,rfl,rfl,rfl,rfl,rfl,rfl,rfl,rfl,trivial⟩⟩
theorem z_r12 (hn : norm V = V) {x y : Bool} (hx : decide ((k : Int) < (m : Int)) = x) (hy : decide ((0 : Int) < (n : Int)) = y) (hT : Fg 161 [(0,.slice la n lc),(9,ov),(10,lv),(11,.int .i64 v),(12,.slice (some ⟨gd,0,none⟩) n dc),(13,.slice (some ⟨gb,0,none⟩) n bc),(14,.slice va m vc),(16,.int .i64 (k : Int))] T)
   (K : ∀ T',Fg 161 [(0,.slice la n lc),(9,ov),(10,lv),(11,.int .i64 v),(12,.slice (some ⟨gd,0,none⟩) n dc),(13,.slice (some ⟨gb,0,none⟩) n bc),(14,.slice va m vc),(16,.int .i64 (k : Int))] T' → T'[52]? = some (.bool (x && y)) → To0 Try.prog Post Z V (G ((base 31).at ⟨T',[]⟩ kt) cs0)) :
   To0 Try.prog Post Z V (G ((base 31).at ⟨T,[]⟩ (.code zr12 :: kt)) cs0):=by
 refine reg_gb ⟨_,Try.func31⟩ (by kernel_rfl) K fun τ=>?_
 clear K
 obtain ⟨hs,h0,h9,h10,h11,h12,h13,h14,h16,-⟩:=hT
 obtain ⟨f,hf,hT⟩:=array161f T hs
 rw [hT]
 simp only [hf _ _ h0,hf _ _ h9,hf _ _ h10,hf _ _ h11,hf _ _ h12,hf _ _ h13,hf _ _ h14,hf _ _ h16]
 clear hf hs h0 h9 h10 h11 h12 h13 h14 h16
 subst hT
 simp only [zr12,zLB,zy,zx,Z31,nva,nvb,nvk,nvl,Try.f31,Option.getD_some]
 cases x <;> cases y <;> go_wp2_with fail
 all_goals (first | exact ⟨hn,⟨by simp,rfl,rfl,rfl,rfl,rfl,rfl,rfl,rfl,trivial⟩⟩ | exact ⟨hn,⟨by simp,rfl,rfl,rfl,rfl,rfl,rfl,rfl,rfl,trivial⟩,rfl⟩ | (exfalso; simp at hx; omega) | (exfalso; simp at hx hy; omega) | (refine ⟨hn,⟨by simp,rfl,rfl,rfl,rfl,rfl,rfl,rfl,rfl,trivial⟩,?_⟩; simp at hx ⊢; omega) | (refine ⟨hn,⟨by simp,rfl,rfl,rfl,rfl,rfl,rfl,rfl,rfl,trivial⟩,?_⟩; simp at hx hy ⊢; omega))
theorem z_r13 (hn : norm V = V) (hk : k < 1000000000) (hT : Fg 161 [(0,.slice la n lc),(9,ov),(10,lv),(11,.int .i64 v),(12,.slice (some ⟨gd,0,none⟩) n dc),(13,.slice (some ⟨gb,0,none⟩) n bc),(14,.slice va m vc),(16,.int .i64 (k : Int))] T)
   (K : ∀ T',Fg 161 [(0,.slice la n lc),(9,ov),(10,lv),(11,.int .i64 v),(12,.slice (some ⟨gd,0,none⟩) n dc),(13,.slice (some ⟨gb,0,none⟩) n bc),(14,.slice va m vc),(16,.int .i64 ((k + 1 : Nat) : Int))] T' → To0 Try.prog Post Z V (G ((base 31).at ⟨T',[]⟩ kt) cs0)) :
   To0 Try.prog Post Z V (G ((base 31).at ⟨T,[]⟩ (.code zr13 :: kt)) cs0):=by
 refine reg_go ⟨_,Try.func31⟩ (by kernel_rfl) K fun τ=>?_
 clear K
 have w1 : IntKind.i64.wrap ((k : Int) + 1) = ((k + 1 : Nat) : Int):=by rw [IntKind.wrap_i64]; omega
 obtain ⟨hs,h0,h9,h10,h11,h12,h13,h14,h16,-⟩:=hT
 obtain ⟨f,hf,hT⟩:=array161f T hs
 rw [hT]
 simp only [hf _ _ h0,hf _ _ h9,hf _ _ h10,hf _ _ h11,hf _ _ h12,hf _ _ h13,hf _ _ h14,hf _ _ h16]
 clear hf hs h0 h9 h10 h11 h12 h13 h14 h16
 subst hT
 simp only [zr13,zLB,zy,zx,Z31,nva,nvb,nvk,nvl,Try.f31,Option.getD_some]
 go_wp2_with fail
 exact ⟨hn,⟨by simp,rfl,rfl,rfl,rfl,rfl,rfl,rfl,rfl,trivial⟩⟩
theorem z_r14 (hn : norm V = V) (hva : va = some ⟨g,o,none⟩) (hk : k < m) (hc : V.cell? ⟨g,o + k,none⟩ = some (.int .i64 a)) (h0n : 0 < n) (hn9 : n < 1000000) (hT : Fg 161 [(0,.slice la n lc),(9,ov),(10,lv),(11,.int .i64 v),(12,.slice (some ⟨gd,0,none⟩) n dc),(13,.slice (some ⟨gb,0,none⟩) n bc),(14,.slice va m vc),(16,.int .i64 (k : Int))] T)
   (K : ∀ T',Fg 161 [(0,.slice la n lc),(9,ov),(10,lv),(11,.int .i64 v),(12,.slice (some ⟨gd,0,none⟩) n dc),(13,.slice (some ⟨gb,0,none⟩) n bc),(14,.slice va m vc),(16,.int .i64 (k : Int)),(17,.int .i64 (a.tmod (n : Int)))] T' → To0 Try.prog Post Z V (G ((base 31).at ⟨T',[]⟩ kt) cs0)) :
   To0 Try.prog Post Z V (G ((base 31).at ⟨T,[]⟩ (.code zr14 :: kt)) cs0):=by
 refine reg_go ⟨_,Try.func31⟩ (by kernel_rfl) K fun τ=>?_
 clear K
 have q1 : ¬ ((k : Int) < 0):=by omega
 have q2 : ¬ ((m : Int) ≤ (k : Int)):=by omega
 have d1 : (re V τ 0).cell? ⟨g,o + k,none⟩ = some (.int .i64 a):=hc
 have q3 : ((n : Int) == 0) = false:=by simp; omega
 have q4 : (n : Int) ≠ 0:=by omega
 have w1 : IntKind.i64.wrap (a.tmod (n : Int)) = a.tmod (n : Int):=by have:=tmod_lt h0n a; rw [IntKind.wrap_i64]; omega
 subst hva
 clear hc
 obtain ⟨hs,h0,h9,h10,h11,h12,h13,h14,h16,-⟩:=hT
 obtain ⟨f,hf,hT⟩:=array161f T hs
 rw [hT]
 simp only [hf _ _ h0,hf _ _ h9,hf _ _ h10,hf _ _ h11,hf _ _ h12,hf _ _ h13,hf _ _ h14,hf _ _ h16]
 clear hf hs h0 h9 h10 h11 h12 h13 h14 h16
 subst hT
 simp only [zr14,zb14,zLB,zy,zx,Z31,nva,nvb,nvk,nvl,Try.f31,Option.getD_some]
 go_wp2_with fail
 exact ⟨hn,⟨by simp,rfl,rfl,rfl,rfl,rfl,rfl,rfl,rfl,rfl,trivial⟩⟩
theorem z_c15 (hn : norm V = V) (h0n : 0 < n) (hn9 : n < 1000000) (hT : Fg 161 [(0,.slice la n lc),(9,ov),(10,lv),(11,.int .i64 v),(12,.slice (some ⟨gd,0,none⟩) n dc),(13,.slice (some ⟨gb,0,none⟩) n bc),(14,.slice va m vc),(16,.int .i64 (k : Int)),(17,.int .i64 (a.tmod (n : Int)))] T)
   (K : ∀ T',Fg 161 [(0,.slice la n lc),(9,ov),(10,lv),(11,.int .i64 v),(12,.slice (some ⟨gd,0,none⟩) n dc),(13,.slice (some ⟨gb,0,none⟩) n bc),(14,.slice va m vc),(16,.int .i64 (k : Int)),(17,.int .i64 ((pidx n a : Nat) : Int))] T' → To0 Try.prog Post Z V (G ((base 31).at ⟨T',[]⟩ kt) cs0)) :
   To0 Try.prog Post Z V (G ((base 31).at ⟨T,[]⟩ (.code zc15 :: kt)) cs0):=by
 refine reg_go ⟨_,Try.func31⟩ (by kernel_rfl) K fun τ=>?_
 clear K
 have ht:=tmod_lt h0n a
 have hq : ((pidx n a : Nat) : Int) = if a.tmod (n : Int) < 0 then a.tmod (n : Int) + (n : Int) else a.tmod (n : Int):=by
   split
   · rename_i h; exact pidx_neg h0n a h
   · rename_i h; exact pidx_pos h0n a h
 have w1 : IntKind.i64.wrap (a.tmod (n : Int) + (n : Int)) = a.tmod (n : Int) + (n : Int):=by rw [IntKind.wrap_i64]; omega
 rw [hq]
 clear hq ht
 obtain ⟨hs,h0,h9,h10,h11,h12,h13,h14,h16,h17,-⟩:=hT
 obtain ⟨f,hf,hT⟩:=array161f T hs
 rw [hT]
 simp only [hf _ _ h0,hf _ _ h9,hf _ _ h10,hf _ _ h11,hf _ _ h12,hf _ _ h13,hf _ _ h14,hf _ _ h16,hf _ _ h17]
 clear hf hs h0 h9 h10 h11 h12 h13 h14 h16 h17
 subst hT
 simp only [zc15,zb14,zLB,zy,zx,Z31,nva,nvb,nvk,nvl,Try.f31,Option.getD_some]
 by_cases hneg : a.tmod (n : Int) < 0
 · have q5 : decide (a.tmod (n : Int) < 0) = true:=decide_eq_true hneg
   go_wp2_with fail
   try rw [if_pos hneg]
   exact ⟨hn,⟨by simp,rfl,rfl,rfl,rfl,rfl,rfl,rfl,rfl,rfl,trivial⟩⟩
 · have q5 : decide (a.tmod (n : Int) < 0) = false:=decide_eq_false hneg
   go_wp2_with fail
   try rw [if_neg hneg]
   exact ⟨hn,⟨by simp,rfl,rfl,rfl,rfl,rfl,rfl,rfl,rfl,rfl,trivial⟩⟩
theorem z_r17 (hn : norm V = V) (hi : i < n) (hla : la = some ⟨g,o,none⟩) (hl : V.cell? ⟨g,o + i,none⟩ = some (.slice r len rc)) (hd : V.cell? ⟨gd,i,none⟩ = some (.int .i64 (p : Int))) {x : Bool} (hx : decide ((len : Int) < (p : Int)) = x) (hT : Fg 161 [(0,.slice la n lc),(9,ov),(10,lv),(11,.int .i64 v),(12,.slice (some ⟨gd,0,none⟩) n dc),(13,.slice (some ⟨gb,0,none⟩) n bc),(14,.slice va m vc),(16,.int .i64 (k : Int)),(17,.int .i64 (i : Int))] T)
   (K : ∀ T',Fg 161 [(0,.slice la n lc),(9,ov),(10,lv),(11,.int .i64 v),(12,.slice (some ⟨gd,0,none⟩) n dc),(13,.slice (some ⟨gb,0,none⟩) n bc),(14,.slice va m vc),(16,.int .i64 (k : Int)),(17,.int .i64 (i : Int))] T' → T'[77]? = some (.bool x) → To0 Try.prog Post Z V (G ((base 31).at ⟨T',[]⟩ kt) cs0)) :
   To0 Try.prog Post Z V (G ((base 31).at ⟨T,[]⟩ (.code zr17 :: kt)) cs0):=by
 refine reg_gb ⟨_,Try.func31⟩ (by kernel_rfl) K fun τ=>?_
 clear K
 have q1 : ¬ ((i : Int) < 0):=by omega
 have q2 : ¬ ((n : Int) ≤ (i : Int)):=by omega
 have d1 : (re V τ 0).cell? ⟨gd,i,none⟩ = some (.int .i64 (p : Int)):=hd
 clear hd
 subst hla
 have d3 : (re V τ 0).cell? ⟨g,o + i,none⟩ = some (.slice r len rc):=hl
 clear hl
 obtain ⟨hs,h0,h9,h10,h11,h12,h13,h14,h16,h17,-⟩:=hT
 obtain ⟨f,hf,hT⟩:=array161f T hs
 rw [hT]
 simp only [hf _ _ h0,hf _ _ h9,hf _ _ h10,hf _ _ h11,hf _ _ h12,hf _ _ h13,hf _ _ h14,hf _ _ h16,hf _ _ h17]
 clear hf hs h0 h9 h10 h11 h12 h13 h14 h16 h17
 subst hT
 simp only [zr17,zb17,zb14,zLB,zy,zx,Z31,nva,nvb,nvk,nvl,Try.f31,Option.getD_some]
 cases x <;> (go_wp2; go_quiet (fail); go_wp2)
 all_goals (first | exact ⟨hn,⟨by simp,rfl,rfl,rfl,rfl,rfl,rfl,rfl,rfl,rfl,trivial⟩⟩ | exact ⟨hn,⟨by simp,rfl,rfl,rfl,rfl,rfl,rfl,rfl,rfl,rfl,trivial⟩,rfl⟩ | (exfalso; simp at hx; omega) | (exfalso; simp at hx hy; omega) | (refine ⟨hn,⟨by simp,rfl,rfl,rfl,rfl,rfl,rfl,rfl,rfl,rfl,trivial⟩,?_⟩; simp at hx ⊢; omega) | (refine ⟨hn,⟨by simp,rfl,rfl,rfl,rfl,rfl,rfl,rfl,rfl,rfl,trivial⟩,?_⟩; simp at hx hy ⊢; omega))
theorem z_r33 (hn : norm V = V) (hi : i < n) (hla : la = some ⟨g,o,none⟩) (hl : V.cell? ⟨g,o + i,none⟩ = some (.slice r len rc)) (hd : V.cell? ⟨gd,i,none⟩ = some (.int .i64 (p : Int))) {x : Bool} (hx : ((p : Int) == (len : Int)) = x) (hT : Fg 161 [(0,.slice la n lc),(9,ov),(10,lv),(11,.int .i64 v),(12,.slice (some ⟨gd,0,none⟩) n dc),(13,.slice (some ⟨gb,0,none⟩) n bc),(14,.slice va m vc),(16,.int .i64 (k : Int)),(17,.int .i64 (i : Int))] T)
   (K : ∀ T',Fg 161 [(0,.slice la n lc),(9,ov),(10,lv),(11,.int .i64 v),(12,.slice (some ⟨gd,0,none⟩) n dc),(13,.slice (some ⟨gb,0,none⟩) n bc),(14,.slice va m vc),(16,.int .i64 (k : Int)),(17,.int .i64 (i : Int))] T' → T'[151]? = some (.bool x) → To0 Try.prog Post Z V (G ((base 31).at ⟨T',[]⟩ kt) cs0)) :
   To0 Try.prog Post Z V (G ((base 31).at ⟨T,[]⟩ (.code zr33 :: kt)) cs0):=by
 refine reg_gb ⟨_,Try.func31⟩ (by kernel_rfl) K fun τ=>?_
 clear K
 have q1 : ¬ ((i : Int) < 0):=by omega
 have q2 : ¬ ((n : Int) ≤ (i : Int)):=by omega
 have d1 : (re V τ 0).cell? ⟨gd,i,none⟩ = some (.int .i64 (p : Int)):=hd
 clear hd
 subst hla
 have d3 : (re V τ 0).cell? ⟨g,o + i,none⟩ = some (.slice r len rc):=hl
 clear hl
 obtain ⟨hs,h0,h9,h10,h11,h12,h13,h14,h16,h17,-⟩:=hT
 obtain ⟨f,hf,hT⟩:=array161f T hs
 rw [hT]
 simp only [hf _ _ h0,hf _ _ h9,hf _ _ h10,hf _ _ h11,hf _ _ h12,hf _ _ h13,hf _ _ h14,hf _ _ h16,hf _ _ h17]
 clear hf hs h0 h9 h10 h11 h12 h13 h14 h16 h17
 subst hT
 simp only [zr33,zb33,zb19,zb17,zb14,zLB,zy,zx,Z31,nva,nvb,nvk,nvl,Try.f31,Option.getD_some]
 cases x <;> (go_wp2; go_quiet (fail); go_wp2)
 all_goals (first | exact ⟨hn,⟨by simp,rfl,rfl,rfl,rfl,rfl,rfl,rfl,rfl,rfl,trivial⟩⟩ | exact ⟨hn,⟨by simp,rfl,rfl,rfl,rfl,rfl,rfl,rfl,rfl,rfl,trivial⟩,rfl⟩ | (exfalso; simp at hx; omega) | (exfalso; simp at hx hy; omega) | (refine ⟨hn,⟨by simp,rfl,rfl,rfl,rfl,rfl,rfl,rfl,rfl,rfl,trivial⟩,?_⟩; simp at hx ⊢; omega) | (refine ⟨hn,⟨by simp,rfl,rfl,rfl,rfl,rfl,rfl,rfl,rfl,rfl,trivial⟩,?_⟩; simp at hx hy ⊢; omega))
theorem z_r19 (hn : norm V = V) (hi : i < n) {x : Bool} (hc : V.cell? ⟨gb,i,none⟩ = some (.bool x)) (hT : Fg 161 [(0,.slice la n lc),(9,ov),(10,lv),(11,.int .i64 v),(12,.slice (some ⟨gd,0,none⟩) n dc),(13,.slice (some ⟨gb,0,none⟩) n bc),(14,.slice va m vc),(16,.int .i64 (k : Int)),(17,.int .i64 (i : Int))] T)
   (K : ∀ T',Fg 161 [(0,.slice la n lc),(9,ov),(10,lv),(11,.int .i64 v),(12,.slice (some ⟨gd,0,none⟩) n dc),(13,.slice (some ⟨gb,0,none⟩) n bc),(14,.slice va m vc),(16,.int .i64 (k : Int)),(17,.int .i64 (i : Int))] T' → T'[85]? = some (.bool x) → To0 Try.prog Post Z V (G ((base 31).at ⟨T',[]⟩ kt) cs0)) :
   To0 Try.prog Post Z V (G ((base 31).at ⟨T,[]⟩ (.code zr19 :: kt)) cs0):=by
 refine reg_gb ⟨_,Try.func31⟩ (by kernel_rfl) K fun τ=>?_
 clear K
 have q1 : ¬ ((i : Int) < 0):=by omega
 have q2 : ¬ ((n : Int) ≤ (i : Int)):=by omega
 have d1 : (re V τ 0).cell? ⟨gb,i,none⟩ = some (.bool x):=hc
 clear hc
 obtain ⟨hs,h0,h9,h10,h11,h12,h13,h14,h16,h17,-⟩:=hT
 obtain ⟨f,hf,hT⟩:=array161f T hs
 rw [hT]
 simp only [hf _ _ h0,hf _ _ h9,hf _ _ h10,hf _ _ h11,hf _ _ h12,hf _ _ h13,hf _ _ h14,hf _ _ h16,hf _ _ h17]
 clear hf hs h0 h9 h10 h11 h12 h13 h14 h16 h17
 subst hT
 simp only [zr19,zb19,zb17,zb14,zLB,zy,zx,Z31,nva,nvb,nvk,nvl,Try.f31,Option.getD_some]
 go_wp2_with fail
 all_goals (first | exact ⟨hn,⟨by simp,rfl,rfl,rfl,rfl,rfl,rfl,rfl,rfl,rfl,trivial⟩⟩ | exact ⟨hn,⟨by simp,rfl,rfl,rfl,rfl,rfl,rfl,rfl,rfl,rfl,trivial⟩,rfl⟩ | (exfalso; simp at hx; omega) | (exfalso; simp at hx hy; omega) | (refine ⟨hn,⟨by simp,rfl,rfl,rfl,rfl,rfl,rfl,rfl,rfl,rfl,trivial⟩,?_⟩; simp at hx ⊢; omega) | (refine ⟨hn,⟨by simp,rfl,rfl,rfl,rfl,rfl,rfl,rfl,rfl,rfl,trivial⟩,?_⟩; simp at hx hy ⊢; omega))
theorem z_r31 (hn : norm V = V) (hi : i < n) (hp : p < 1000000) (hd : V.cell? ⟨gd,i,none⟩ = some (.int .i64 (p : Int))) (hz : V.frozen? ⟨gd,i,none⟩ = false) (hT : Fg 161 [(0,.slice la n lc),(9,ov),(10,lv),(11,.int .i64 v),(12,.slice (some ⟨gd,0,none⟩) n dc),(13,.slice (some ⟨gb,0,none⟩) n bc),(14,.slice va m vc),(16,.int .i64 (k : Int)),(17,.int .i64 (i : Int))] T)
   (K : ∀ T',Fg 161 [(0,.slice la n lc),(9,ov),(10,lv),(11,.int .i64 v),(12,.slice (some ⟨gd,0,none⟩) n dc),(13,.slice (some ⟨gb,0,none⟩) n bc),(14,.slice va m vc),(16,.int .i64 (k : Int)),(17,.int .i64 (i : Int))] T' → To0 Try.prog Post Z (V.setCell ⟨gd,i,none⟩ (.int .i64 ((p + 1 : Nat) : Int))) (G ((base 31).at ⟨T',[]⟩ kt) cs0)) :
   To0 Try.prog Post Z V (G ((base 31).at ⟨T,[]⟩ (.code zr31 :: kt)) cs0):=by
 refine reg_go ⟨_,Try.func31⟩ (by kernel_rfl) K fun τ=>?_
 clear K
 have q1 : ¬ ((i : Int) < 0):=by omega
 have q2 : ¬ ((n : Int) ≤ (i : Int)):=by omega
 have d1 : (re V τ 0).cell? ⟨gd,i,none⟩ = some (.int .i64 (p : Int)):=hd
 clear hd
 have z1 : (re V τ 0).frozen? ⟨gd,i,none⟩ = false:=hz
 clear hz
 have w1 : IntKind.i64.wrap ((p : Int) + 1) = ((p + 1 : Nat) : Int):=by rw [IntKind.wrap_i64]; omega
 obtain ⟨hs,h0,h9,h10,h11,h12,h13,h14,h16,h17,-⟩:=hT
 obtain ⟨f,hf,hT⟩:=array161f T hs
 rw [hT]
 simp only [hf _ _ h0,hf _ _ h9,hf _ _ h10,hf _ _ h11,hf _ _ h12,hf _ _ h13,hf _ _ h14,hf _ _ h16,hf _ _ h17]
 clear hf hs h0 h9 h10 h11 h12 h13 h14 h16 h17
 subst hT
 simp only [zr31,zb29,zb22,zb20,zb19,zb17,zb14,zLB,zy,zx,Z31,nva,nvb,nvk,nvl,nvd,Try.f31,Option.getD_some]
 go_wp2_with fail
 exact ⟨norm_set hn _ _,⟨by simp,rfl,rfl,rfl,rfl,rfl,rfl,rfl,rfl,rfl,trivial⟩⟩
theorem z_r34 (hn : norm V = V) (hi : i < n) (hp : p < 1000000) (hd : V.cell? ⟨gd,i,none⟩ = some (.int .i64 (p : Int))) (hz : V.frozen? ⟨gd,i,none⟩ = false) (hT : Fg 161 [(0,.slice la n lc),(9,ov),(10,lv),(11,.int .i64 v),(12,.slice (some ⟨gd,0,none⟩) n dc),(13,.slice (some ⟨gb,0,none⟩) n bc),(14,.slice va m vc),(16,.int .i64 (k : Int)),(17,.int .i64 (i : Int))] T)
   (K : ∀ T',Fg 161 [(0,.slice la n lc),(9,ov),(10,lv),(11,.int .i64 v),(12,.slice (some ⟨gd,0,none⟩) n dc),(13,.slice (some ⟨gb,0,none⟩) n bc),(14,.slice va m vc),(16,.int .i64 (k : Int)),(17,.int .i64 (i : Int))] T' → To0 Try.prog Post Z (V.setCell ⟨gd,i,none⟩ (.int .i64 ((p + 1 : Nat) : Int))) (G ((base 31).at ⟨T',[]⟩ kt) cs0)) :
   To0 Try.prog Post Z V (G ((base 31).at ⟨T,[]⟩ (.code zr34 :: kt)) cs0):=by
 refine reg_go ⟨_,Try.func31⟩ (by kernel_rfl) K fun τ=>?_
 clear K
 have q1 : ¬ ((i : Int) < 0):=by omega
 have q2 : ¬ ((n : Int) ≤ (i : Int)):=by omega
 have d1 : (re V τ 0).cell? ⟨gd,i,none⟩ = some (.int .i64 (p : Int)):=hd
 clear hd
 have z1 : (re V τ 0).frozen? ⟨gd,i,none⟩ = false:=hz
 clear hz
 have w1 : IntKind.i64.wrap ((p : Int) + 1) = ((p + 1 : Nat) : Int):=by rw [IntKind.wrap_i64]; omega
 obtain ⟨hs,h0,h9,h10,h11,h12,h13,h14,h16,h17,-⟩:=hT
 obtain ⟨f,hf,hT⟩:=array161f T hs
 rw [hT]
 simp only [hf _ _ h0,hf _ _ h9,hf _ _ h10,hf _ _ h11,hf _ _ h12,hf _ _ h13,hf _ _ h14,hf _ _ h16,hf _ _ h17]
 clear hf hs h0 h9 h10 h11 h12 h13 h14 h16 h17
 subst hT
 simp only [zr34,zb33,zb19,zb17,zb14,zLB,zy,zx,Z31,nva,nvb,nvk,nvl,nvd,Try.f31,Option.getD_some]
 go_wp2_with fail
 exact ⟨norm_set hn _ _,⟨by simp,rfl,rfl,rfl,rfl,rfl,rfl,rfl,rfl,rfl,trivial⟩⟩
theorem z_r32 (hn : norm V = V) (hi : i < n) {y : Bool} (hc : V.cell? ⟨gb,i,none⟩ = some (.bool y)) (hz : V.frozen? ⟨gb,i,none⟩ = false) (hT : Fg 161 [(0,.slice la n lc),(9,ov),(10,lv),(11,.int .i64 v),(12,.slice (some ⟨gd,0,none⟩) n dc),(13,.slice (some ⟨gb,0,none⟩) n bc),(14,.slice va m vc),(16,.int .i64 (k : Int)),(17,.int .i64 (i : Int))] T)
   (K : ∀ T',Fg 161 [(0,.slice la n lc),(9,ov),(10,lv),(11,.int .i64 v),(12,.slice (some ⟨gd,0,none⟩) n dc),(13,.slice (some ⟨gb,0,none⟩) n bc),(14,.slice va m vc),(16,.int .i64 (k : Int)),(17,.int .i64 (i : Int))] T' → To0 Try.prog Post Z (V.setCell ⟨gb,i,none⟩ (.bool true)) (G ((base 31).at ⟨T',[]⟩ kt) cs0)) :
   To0 Try.prog Post Z V (G ((base 31).at ⟨T,[]⟩ (.code zr32 :: kt)) cs0):=by
 refine reg_go ⟨_,Try.func31⟩ (by kernel_rfl) K fun τ=>?_
 clear K
 have q1 : ¬ ((i : Int) < 0):=by omega
 have q2 : ¬ ((n : Int) ≤ (i : Int)):=by omega
 have d1 : (re V τ 0).cell? ⟨gb,i,none⟩ = some (.bool y):=hc
 have z1 : (re V τ 0).frozen? ⟨gb,i,none⟩ = false:=hz
 clear hc hz
 obtain ⟨hs,h0,h9,h10,h11,h12,h13,h14,h16,h17,-⟩:=hT
 obtain ⟨f,hf,hT⟩:=array161f T hs
 rw [hT]
 simp only [hf _ _ h0,hf _ _ h9,hf _ _ h10,hf _ _ h11,hf _ _ h12,hf _ _ h13,hf _ _ h14,hf _ _ h16,hf _ _ h17]
 clear hf hs h0 h9 h10 h11 h12 h13 h14 h16 h17
 subst hT
 simp only [zr32,zb19,zb17,zb14,zLB,zy,zx,Z31,nva,nvb,nvk,nvl,Try.f31,Option.getD_some]
 go_wp2_with fail
 exact ⟨norm_set hn _ _,⟨by simp,rfl,rfl,rfl,rfl,rfl,rfl,rfl,rfl,rfl,trivial⟩⟩
theorem z_c22y (hn : norm V = V) (ha : a = 1) (e18 : V.heap[b18]? = some (.cells #[.int .i64 a,.int .i64 nn,.int .i64 od] 57 (0,0))) (hT : Fg 161 [(0,.slice la n lc),(9,ov),(10,lv),(11,.int .i64 v),(12,.slice (some ⟨gd,0,none⟩) n dc),(13,.slice (some ⟨gb,0,none⟩) n bc),(14,.slice va m vc),(16,.int .i64 (k : Int)),(17,.int .i64 (i : Int)),(18,.pointer (some ⟨b18,0,none⟩)),(19,.pointer (some ⟨b19,0,none⟩))] T)
   (K : ∀ T',Fg 161 [(0,.slice la n lc),(9,ov),(10,lv),(11,.int .i64 (IntKind.i64.wrap (v + nn))),(12,.slice (some ⟨gd,0,none⟩) n dc),(13,.slice (some ⟨gb,0,none⟩) n bc),(14,.slice va m vc),(16,.int .i64 (k : Int)),(17,.int .i64 (i : Int)),(18,.pointer (some ⟨b18,0,none⟩)),(19,.pointer (some ⟨b19,0,none⟩))] T' → To0 Try.prog Post Z V (G ((base 31).at ⟨T',[]⟩ kt) cs0)) :
   To0 Try.prog Post Z V (G ((base 31).at ⟨T,[]⟩ (.code zc22 :: kt)) cs0):=by
 refine reg_go ⟨_,Try.func31⟩ (by kernel_rfl) K fun τ=>?_
 clear K
 have c0 : (re V τ 0).cell? ⟨b18,0,none⟩ = some (.int .i64 a):=cell_of e18 (by simp)
 have c1 : (re V τ 0).cell? ⟨b18,1,none⟩ = some (.int .i64 nn):=cell_of e18 (by simp)
 have c2 : (re V τ 0).cell? ⟨b18,2,none⟩ = some (.int .i64 od):=cell_of e18 (by simp)
 have q1 : (a == 1) = true:=by simp [ha]
 clear e18
 rw [IntWalk.i64_left]
 obtain ⟨hs,h0,h9,h10,h11,h12,h13,h14,h16,h17,h18,h19,-⟩:=hT
 obtain ⟨f,hf,hT⟩:=array161f T hs
 rw [hT]
 simp only [hf _ _ h0,hf _ _ h9,hf _ _ h10,hf _ _ h11,hf _ _ h12,hf _ _ h13,hf _ _ h14,hf _ _ h16,hf _ _ h17,hf _ _ h18,hf _ _ h19]
 clear hf hs h0 h9 h10 h11 h12 h13 h14 h16 h17 h18 h19
 subst hT
 simp only [zc22,zb22,zb20,zb19,zb17,zb14,zLB,zy,zx,Z31,nva,nvb,nvk,nvl,nvd,Try.f31,Option.getD_some]
 go_wp2_with fail
 exact ⟨hn,⟨by simp,rfl,rfl,rfl,rfl,rfl,rfl,rfl,rfl,rfl,rfl,rfl,trivial⟩⟩
theorem z_c22n (hn : norm V = V) (ha : ¬ a = 1) (e18 : V.heap[b18]? = some (.cells #[.int .i64 a,.int .i64 nn,.int .i64 od] 57 (0,0))) (hT : Fg 161 [(0,.slice la n lc),(9,ov),(10,lv),(11,.int .i64 v),(12,.slice (some ⟨gd,0,none⟩) n dc),(13,.slice (some ⟨gb,0,none⟩) n bc),(14,.slice va m vc),(16,.int .i64 (k : Int)),(17,.int .i64 (i : Int)),(18,.pointer (some ⟨b18,0,none⟩)),(19,.pointer (some ⟨b19,0,none⟩))] T)
   (K : ∀ T',Fg 161 [(0,.slice la n lc),(9,ov),(10,lv),(11,.int .i64 v),(12,.slice (some ⟨gd,0,none⟩) n dc),(13,.slice (some ⟨gb,0,none⟩) n bc),(14,.slice va m vc),(16,.int .i64 (k : Int)),(17,.int .i64 (i : Int)),(18,.pointer (some ⟨b18,0,none⟩)),(19,.pointer (some ⟨b19,0,none⟩))] T' → To0 Try.prog Post Z V (G ((base 31).at ⟨T',[]⟩ kt) cs0)) :
   To0 Try.prog Post Z V (G ((base 31).at ⟨T,[]⟩ (.code zc22 :: kt)) cs0):=by
 refine reg_go ⟨_,Try.func31⟩ (by kernel_rfl) K fun τ=>?_
 clear K
 have c0 : (re V τ 0).cell? ⟨b18,0,none⟩ = some (.int .i64 a):=cell_of e18 (by simp)
 have c1 : (re V τ 0).cell? ⟨b18,1,none⟩ = some (.int .i64 nn):=cell_of e18 (by simp)
 have c2 : (re V τ 0).cell? ⟨b18,2,none⟩ = some (.int .i64 od):=cell_of e18 (by simp)
 have q1 : (a == 1) = false:=by simp [ha]
 clear e18
 obtain ⟨hs,h0,h9,h10,h11,h12,h13,h14,h16,h17,h18,h19,-⟩:=hT
 obtain ⟨f,hf,hT⟩:=array161f T hs
 rw [hT]
 simp only [hf _ _ h0,hf _ _ h9,hf _ _ h10,hf _ _ h11,hf _ _ h12,hf _ _ h13,hf _ _ h14,hf _ _ h16,hf _ _ h17,hf _ _ h18,hf _ _ h19]
 clear hf hs h0 h9 h10 h11 h12 h13 h14 h16 h17 h18 h19
 subst hT
 simp only [zc22,zb22,zb20,zb19,zb17,zb14,zLB,zy,zx,Z31,nva,nvb,nvk,nvl,nvd,Try.f31,Option.getD_some]
 go_wp2_with fail
 exact ⟨hn,⟨by simp,rfl,rfl,rfl,rfl,rfl,rfl,rfl,rfl,rfl,rfl,rfl,trivial⟩⟩
theorem z_c24y (hn : norm V = V) (ha : a = 2) (hv : v = od) (e18 : V.heap[b18]? = some (.cells #[.int .i64 a,.int .i64 nn,.int .i64 od] 57 (0,0))) {c0x c1x c2x c3x : Value} (e19 : V.heap[b19]? = some (.cells #[c0x,c1x,c2x,c3x] 67 (0,0))) (hT : Fg 161 [(0,.slice la n lc),(9,ov),(10,lv),(11,.int .i64 v),(12,.slice (some ⟨gd,0,none⟩) n dc),(13,.slice (some ⟨gb,0,none⟩) n bc),(14,.slice va m vc),(16,.int .i64 (k : Int)),(17,.int .i64 (i : Int)),(18,.pointer (some ⟨b18,0,none⟩)),(19,.pointer (some ⟨b19,0,none⟩))] T)
   (K : ∀ T',Fg 161 [(0,.slice la n lc),(9,ov),(10,lv),(11,.int .i64 nn),(12,.slice (some ⟨gd,0,none⟩) n dc),(13,.slice (some ⟨gb,0,none⟩) n bc),(14,.slice va m vc),(16,.int .i64 (k : Int)),(17,.int .i64 (i : Int)),(18,.pointer (some ⟨b18,0,none⟩)),(19,.pointer (some ⟨b19,0,none⟩))] T' → To0 Try.prog Post Z (V.setCell ⟨b19,3,none⟩ (.bool true)) (G ((base 31).at ⟨T',[]⟩ kt) cs0)) :
   To0 Try.prog Post Z V (G ((base 31).at ⟨T,[]⟩ (.code zc24 :: kt)) cs0):=by
 refine reg_go ⟨_,Try.func31⟩ (by kernel_rfl) K fun τ=>?_
 clear K
 have c0 : (re V τ 0).cell? ⟨b18,0,none⟩ = some (.int .i64 a):=cell_of e18 (by simp)
 have c1 : (re V τ 0).cell? ⟨b18,1,none⟩ = some (.int .i64 nn):=cell_of e18 (by simp)
 have c2 : (re V τ 0).cell? ⟨b18,2,none⟩ = some (.int .i64 od):=cell_of e18 (by simp)
 have f0 : (re V τ 0).cell? ⟨b19,0,none⟩ = some (c0x):=cell_of e19 (by simp)
 have z0 : (re V τ 0).frozen? ⟨b19,0,none⟩ = false:=by simp [World.frozen?,re,e19]
 have f1 : (re V τ 0).cell? ⟨b19,1,none⟩ = some (c1x):=cell_of e19 (by simp)
 have z1 : (re V τ 0).frozen? ⟨b19,1,none⟩ = false:=by simp [World.frozen?,re,e19]
 have f2 : (re V τ 0).cell? ⟨b19,2,none⟩ = some (c2x):=cell_of e19 (by simp)
 have z2 : (re V τ 0).frozen? ⟨b19,2,none⟩ = false:=by simp [World.frozen?,re,e19]
 have f3 : (re V τ 0).cell? ⟨b19,3,none⟩ = some (c3x):=cell_of e19 (by simp)
 have z3 : (re V τ 0).frozen? ⟨b19,3,none⟩ = false:=by simp [World.frozen?,re,e19]
 have q1 : (a == 2) = true:=by simp [ha]
 have q2 : (v == od) = true:=by simp [hv]
 clear e18 e19
 obtain ⟨hs,h0,h9,h10,h11,h12,h13,h14,h16,h17,h18,h19,-⟩:=hT
 obtain ⟨f,hf,hT⟩:=array161f T hs
 rw [hT]
 simp only [hf _ _ h0,hf _ _ h9,hf _ _ h10,hf _ _ h11,hf _ _ h12,hf _ _ h13,hf _ _ h14,hf _ _ h16,hf _ _ h17,hf _ _ h18,hf _ _ h19]
 clear hf hs h0 h9 h10 h11 h12 h13 h14 h16 h17 h18 h19
 subst hT
 simp only [zc24,zb22,zb20,zb19,zb17,zb14,zLB,zy,zx,Z31,nva,nvb,nvk,nvl,nvd,Try.f31,Option.getD_some]
 go_wp2_with fail
 exact ⟨norm_set hn _ _,⟨by simp,rfl,rfl,rfl,rfl,rfl,rfl,rfl,rfl,rfl,rfl,rfl,trivial⟩⟩
theorem z_c24n (hn : norm V = V) (ha : a = 2) (hv : ¬ v = od) (e18 : V.heap[b18]? = some (.cells #[.int .i64 a,.int .i64 nn,.int .i64 od] 57 (0,0))) (hT : Fg 161 [(0,.slice la n lc),(9,ov),(10,lv),(11,.int .i64 v),(12,.slice (some ⟨gd,0,none⟩) n dc),(13,.slice (some ⟨gb,0,none⟩) n bc),(14,.slice va m vc),(16,.int .i64 (k : Int)),(17,.int .i64 (i : Int)),(18,.pointer (some ⟨b18,0,none⟩)),(19,.pointer (some ⟨b19,0,none⟩))] T)
   (K : ∀ T',Fg 161 [(0,.slice la n lc),(9,ov),(10,lv),(11,.int .i64 v),(12,.slice (some ⟨gd,0,none⟩) n dc),(13,.slice (some ⟨gb,0,none⟩) n bc),(14,.slice va m vc),(16,.int .i64 (k : Int)),(17,.int .i64 (i : Int)),(18,.pointer (some ⟨b18,0,none⟩)),(19,.pointer (some ⟨b19,0,none⟩))] T' → To0 Try.prog Post Z V (G ((base 31).at ⟨T',[]⟩ kt) cs0)) :
   To0 Try.prog Post Z V (G ((base 31).at ⟨T,[]⟩ (.code zc24 :: kt)) cs0):=by
 refine reg_go ⟨_,Try.func31⟩ (by kernel_rfl) K fun τ=>?_
 clear K
 have c0 : (re V τ 0).cell? ⟨b18,0,none⟩ = some (.int .i64 a):=cell_of e18 (by simp)
 have c1 : (re V τ 0).cell? ⟨b18,1,none⟩ = some (.int .i64 nn):=cell_of e18 (by simp)
 have c2 : (re V τ 0).cell? ⟨b18,2,none⟩ = some (.int .i64 od):=cell_of e18 (by simp)
 have q1 : (a == 2) = true:=by simp [ha]
 have q2 : (v == od) = false:=by simp [hv]
 clear e18
 obtain ⟨hs,h0,h9,h10,h11,h12,h13,h14,h16,h17,h18,h19,-⟩:=hT
 obtain ⟨f,hf,hT⟩:=array161f T hs
 rw [hT]
 simp only [hf _ _ h0,hf _ _ h9,hf _ _ h10,hf _ _ h11,hf _ _ h12,hf _ _ h13,hf _ _ h14,hf _ _ h16,hf _ _ h17,hf _ _ h18,hf _ _ h19]
 clear hf hs h0 h9 h10 h11 h12 h13 h14 h16 h17 h18 h19
 subst hT
 simp only [zc24,zb22,zb20,zb19,zb17,zb14,zLB,zy,zx,Z31,nva,nvb,nvk,nvl,nvd,Try.f31,Option.getD_some]
 go_wp2_with fail
 exact ⟨hn,⟨by simp,rfl,rfl,rfl,rfl,rfl,rfl,rfl,rfl,rfl,rfl,rfl,trivial⟩⟩
theorem z_c24o (hn : norm V = V) (ha : ¬ a = 2) (e18 : V.heap[b18]? = some (.cells #[.int .i64 a,.int .i64 nn,.int .i64 od] 57 (0,0))) (hT : Fg 161 [(0,.slice la n lc),(9,ov),(10,lv),(11,.int .i64 v),(12,.slice (some ⟨gd,0,none⟩) n dc),(13,.slice (some ⟨gb,0,none⟩) n bc),(14,.slice va m vc),(16,.int .i64 (k : Int)),(17,.int .i64 (i : Int)),(18,.pointer (some ⟨b18,0,none⟩)),(19,.pointer (some ⟨b19,0,none⟩))] T)
   (K : ∀ T',Fg 161 [(0,.slice la n lc),(9,ov),(10,lv),(11,.int .i64 v),(12,.slice (some ⟨gd,0,none⟩) n dc),(13,.slice (some ⟨gb,0,none⟩) n bc),(14,.slice va m vc),(16,.int .i64 (k : Int)),(17,.int .i64 (i : Int)),(18,.pointer (some ⟨b18,0,none⟩)),(19,.pointer (some ⟨b19,0,none⟩))] T' → To0 Try.prog Post Z V (G ((base 31).at ⟨T',[]⟩ kt) cs0)) :
   To0 Try.prog Post Z V (G ((base 31).at ⟨T,[]⟩ (.code zc24 :: kt)) cs0):=by
 refine reg_go ⟨_,Try.func31⟩ (by kernel_rfl) K fun τ=>?_
 clear K
 have c0 : (re V τ 0).cell? ⟨b18,0,none⟩ = some (.int .i64 a):=cell_of e18 (by simp)
 have c1 : (re V τ 0).cell? ⟨b18,1,none⟩ = some (.int .i64 nn):=cell_of e18 (by simp)
 have c2 : (re V τ 0).cell? ⟨b18,2,none⟩ = some (.int .i64 od):=cell_of e18 (by simp)
 have q1 : (a == 2) = false:=by simp [ha]
 clear e18
 obtain ⟨hs,h0,h9,h10,h11,h12,h13,h14,h16,h17,h18,h19,-⟩:=hT
 obtain ⟨f,hf,hT⟩:=array161f T hs
 rw [hT]
 simp only [hf _ _ h0,hf _ _ h9,hf _ _ h10,hf _ _ h11,hf _ _ h12,hf _ _ h13,hf _ _ h14,hf _ _ h16,hf _ _ h17,hf _ _ h18,hf _ _ h19]
 clear hf hs h0 h9 h10 h11 h12 h13 h14 h16 h17 h18 h19
 subst hT
 simp only [zc24,zb22,zb20,zb19,zb17,zb14,zLB,zy,zx,Z31,nva,nvb,nvk,nvl,nvd,Try.f31,Option.getD_some]
 go_wp2_with fail
 exact ⟨hn,⟨by simp,rfl,rfl,rfl,rfl,rfl,rfl,rfl,rfl,rfl,rfl,rfl,trivial⟩⟩
theorem z_c27y (hn : norm V = V) (ha : a < 2) (e18 : V.heap[b18]? = some (.cells #[.int .i64 a,.int .i64 nn,.int .i64 od] 57 (0,0))) {c0x c1x c2x c3x : Value} (e19 : V.heap[b19]? = some (.cells #[c0x,c1x,c2x,c3x] 67 (0,0))) (hT : Fg 161 [(0,.slice la n lc),(9,ov),(10,lv),(11,.int .i64 v),(12,.slice (some ⟨gd,0,none⟩) n dc),(13,.slice (some ⟨gb,0,none⟩) n bc),(14,.slice va m vc),(16,.int .i64 (k : Int)),(17,.int .i64 (i : Int)),(18,.pointer (some ⟨b18,0,none⟩)),(19,.pointer (some ⟨b19,0,none⟩))] T)
   (K : ∀ T',Fg 161 [(0,.slice la n lc),(9,ov),(10,lv),(11,.int .i64 v),(12,.slice (some ⟨gd,0,none⟩) n dc),(13,.slice (some ⟨gb,0,none⟩) n bc),(14,.slice va m vc),(16,.int .i64 (k : Int)),(17,.int .i64 (i : Int)),(18,.pointer (some ⟨b18,0,none⟩)),(19,.pointer (some ⟨b19,0,none⟩))] T' → To0 Try.prog Post Z (V.setCell ⟨b19,2,none⟩ (.int .i64 v)) (G ((base 31).at ⟨T',[]⟩ kt) cs0)) :
   To0 Try.prog Post Z V (G ((base 31).at ⟨T,[]⟩ (.code zc27 :: kt)) cs0):=by
 refine reg_go ⟨_,Try.func31⟩ (by kernel_rfl) K fun τ=>?_
 clear K
 have c0 : (re V τ 0).cell? ⟨b18,0,none⟩ = some (.int .i64 a):=cell_of e18 (by simp)
 have c1 : (re V τ 0).cell? ⟨b18,1,none⟩ = some (.int .i64 nn):=cell_of e18 (by simp)
 have c2 : (re V τ 0).cell? ⟨b18,2,none⟩ = some (.int .i64 od):=cell_of e18 (by simp)
 have f0 : (re V τ 0).cell? ⟨b19,0,none⟩ = some (c0x):=cell_of e19 (by simp)
 have z0 : (re V τ 0).frozen? ⟨b19,0,none⟩ = false:=by simp [World.frozen?,re,e19]
 have f1 : (re V τ 0).cell? ⟨b19,1,none⟩ = some (c1x):=cell_of e19 (by simp)
 have z1 : (re V τ 0).frozen? ⟨b19,1,none⟩ = false:=by simp [World.frozen?,re,e19]
 have f2 : (re V τ 0).cell? ⟨b19,2,none⟩ = some (c2x):=cell_of e19 (by simp)
 have z2 : (re V τ 0).frozen? ⟨b19,2,none⟩ = false:=by simp [World.frozen?,re,e19]
 have f3 : (re V τ 0).cell? ⟨b19,3,none⟩ = some (c3x):=cell_of e19 (by simp)
 have z3 : (re V τ 0).frozen? ⟨b19,3,none⟩ = false:=by simp [World.frozen?,re,e19]
 have q1 : decide (a < 2) = true:=decide_eq_true ha
 clear e18 e19
 obtain ⟨hs,h0,h9,h10,h11,h12,h13,h14,h16,h17,h18,h19,-⟩:=hT
 obtain ⟨f,hf,hT⟩:=array161f T hs
 rw [hT]
 simp only [hf _ _ h0,hf _ _ h9,hf _ _ h10,hf _ _ h11,hf _ _ h12,hf _ _ h13,hf _ _ h14,hf _ _ h16,hf _ _ h17,hf _ _ h18,hf _ _ h19]
 clear hf hs h0 h9 h10 h11 h12 h13 h14 h16 h17 h18 h19
 subst hT
 simp only [zc27,zb22,zb20,zb19,zb17,zb14,zLB,zy,zx,Z31,nva,nvb,nvk,nvl,nvd,Try.f31,Option.getD_some]
 go_wp2_with fail
 exact ⟨norm_set hn _ _,⟨by simp,rfl,rfl,rfl,rfl,rfl,rfl,rfl,rfl,rfl,rfl,rfl,trivial⟩⟩
theorem z_c27n (hn : norm V = V) (ha : ¬ a < 2) (e18 : V.heap[b18]? = some (.cells #[.int .i64 a,.int .i64 nn,.int .i64 od] 57 (0,0))) (hT : Fg 161 [(0,.slice la n lc),(9,ov),(10,lv),(11,.int .i64 v),(12,.slice (some ⟨gd,0,none⟩) n dc),(13,.slice (some ⟨gb,0,none⟩) n bc),(14,.slice va m vc),(16,.int .i64 (k : Int)),(17,.int .i64 (i : Int)),(18,.pointer (some ⟨b18,0,none⟩)),(19,.pointer (some ⟨b19,0,none⟩))] T)
   (K : ∀ T',Fg 161 [(0,.slice la n lc),(9,ov),(10,lv),(11,.int .i64 v),(12,.slice (some ⟨gd,0,none⟩) n dc),(13,.slice (some ⟨gb,0,none⟩) n bc),(14,.slice va m vc),(16,.int .i64 (k : Int)),(17,.int .i64 (i : Int)),(18,.pointer (some ⟨b18,0,none⟩)),(19,.pointer (some ⟨b19,0,none⟩))] T' → To0 Try.prog Post Z V (G ((base 31).at ⟨T',[]⟩ kt) cs0)) :
   To0 Try.prog Post Z V (G ((base 31).at ⟨T,[]⟩ (.code zc27 :: kt)) cs0):=by
 refine reg_go ⟨_,Try.func31⟩ (by kernel_rfl) K fun τ=>?_
 clear K
 have c0 : (re V τ 0).cell? ⟨b18,0,none⟩ = some (.int .i64 a):=cell_of e18 (by simp)
 have c1 : (re V τ 0).cell? ⟨b18,1,none⟩ = some (.int .i64 nn):=cell_of e18 (by simp)
 have c2 : (re V τ 0).cell? ⟨b18,2,none⟩ = some (.int .i64 od):=cell_of e18 (by simp)
 have q1 : decide (a < 2) = false:=decide_eq_false ha
 clear e18
 obtain ⟨hs,h0,h9,h10,h11,h12,h13,h14,h16,h17,h18,h19,-⟩:=hT
 obtain ⟨f,hf,hT⟩:=array161f T hs
 rw [hT]
 simp only [hf _ _ h0,hf _ _ h9,hf _ _ h10,hf _ _ h11,hf _ _ h12,hf _ _ h13,hf _ _ h14,hf _ _ h16,hf _ _ h17,hf _ _ h18,hf _ _ h19]
 clear hf hs h0 h9 h10 h11 h12 h13 h14 h16 h17 h18 h19
 subst hT
 simp only [zc27,zb22,zb20,zb19,zb17,zb14,zLB,zy,zx,Z31,nva,nvb,nvk,nvl,nvd,Try.f31,Option.getD_some]
 go_wp2_with fail
 exact ⟨hn,⟨by simp,rfl,rfl,rfl,rfl,rfl,rfl,rfl,rfl,rfl,rfl,rfl,trivial⟩⟩
theorem z_r29 (hn : norm V = V) {x : Bool} (hx : (a != 3) = x) (e18 : V.heap[b18]? = some (.cells #[.int .i64 a,.int .i64 nn,.int .i64 od] 57 (0,0))) (hT : Fg 161 [(0,.slice la n lc),(9,ov),(10,lv),(11,.int .i64 v),(12,.slice (some ⟨gd,0,none⟩) n dc),(13,.slice (some ⟨gb,0,none⟩) n bc),(14,.slice va m vc),(16,.int .i64 (k : Int)),(17,.int .i64 (i : Int)),(18,.pointer (some ⟨b18,0,none⟩)),(19,.pointer (some ⟨b19,0,none⟩))] T)
   (K : ∀ T',Fg 161 [(0,.slice la n lc),(9,ov),(10,lv),(11,.int .i64 v),(12,.slice (some ⟨gd,0,none⟩) n dc),(13,.slice (some ⟨gb,0,none⟩) n bc),(14,.slice va m vc),(16,.int .i64 (k : Int)),(17,.int .i64 (i : Int)),(18,.pointer (some ⟨b18,0,none⟩)),(19,.pointer (some ⟨b19,0,none⟩))] T' → T'[128]? = some (.bool x) → To0 Try.prog Post Z V (G ((base 31).at ⟨T',[]⟩ kt) cs0)) :
   To0 Try.prog Post Z V (G ((base 31).at ⟨T,[]⟩ (.code zr29 :: kt)) cs0):=by
 refine reg_gb ⟨_,Try.func31⟩ (by kernel_rfl) K fun τ=>?_
 clear K
 have c0 : (re V τ 0).cell? ⟨b18,0,none⟩ = some (.int .i64 a):=cell_of e18 (by simp)
 have c1 : (re V τ 0).cell? ⟨b18,1,none⟩ = some (.int .i64 nn):=cell_of e18 (by simp)
 have c2 : (re V τ 0).cell? ⟨b18,2,none⟩ = some (.int .i64 od):=cell_of e18 (by simp)
 clear e18
 obtain ⟨hs,h0,h9,h10,h11,h12,h13,h14,h16,h17,h18,h19,-⟩:=hT
 obtain ⟨f,hf,hT⟩:=array161f T hs
 rw [hT]
 simp only [hf _ _ h0,hf _ _ h9,hf _ _ h10,hf _ _ h11,hf _ _ h12,hf _ _ h13,hf _ _ h14,hf _ _ h16,hf _ _ h17,hf _ _ h18,hf _ _ h19]
 clear hf hs h0 h9 h10 h11 h12 h13 h14 h16 h17 h18 h19
 subst hT
 simp only [zr29,zb29,zb22,zb20,zb19,zb17,zb14,zLB,zy,zx,Z31,nva,nvb,nvk,nvl,nvd,Try.f31,Option.getD_some]
 cases x <;> go_wp2_with fail
 all_goals (first | exact ⟨hn,⟨by simp,rfl,rfl,rfl,rfl,rfl,rfl,rfl,rfl,rfl,rfl,rfl,trivial⟩⟩ | exact ⟨hn,⟨by simp,rfl,rfl,rfl,rfl,rfl,rfl,rfl,rfl,rfl,rfl,rfl,trivial⟩,rfl⟩ | (exfalso; simp at hx; omega) | (exfalso; simp at hx hy; omega) | (refine ⟨hn,⟨by simp,rfl,rfl,rfl,rfl,rfl,rfl,rfl,rfl,rfl,rfl,rfl,trivial⟩,?_⟩; simp at hx ⊢; omega) | (refine ⟨hn,⟨by simp,rfl,rfl,rfl,rfl,rfl,rfl,rfl,rfl,rfl,rfl,rfl,trivial⟩,?_⟩; simp at hx hy ⊢; omega))
end
end Go.Proofs.Ytibcdikfbhmheaa
