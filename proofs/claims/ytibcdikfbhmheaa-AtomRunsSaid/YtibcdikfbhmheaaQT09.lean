import Derived.Test.YtibcdikfbhmheaaQT08
import Derived.Test.YtibcdikfbhmheaaQT02
set_option linter.unusedSimpArgs false
set_option linter.unusedVariables false
set_option maxRecDepth 100000
set_option maxHeartbeats 4000000
namespace Go.Proofs.Ytibcdikfbhmheaa
open Go Go.Conc Go.Proofs
open Go.ConcN (sumTo upd sumTo_upd upd_ne upd_same)
set_option linter.unusedVariables false
theorem array139f (T : Array Value) (h : T.size = 139) : ∃ f : Nat → Value,(∀ i v,T[i]? = some v → f i = v) ∧ T = #[f 0,f 1,f 2,f 3,f 4,f 5,f 6,f 7,f 8,f 9,f 10,f 11,f 12,f 13,f 14,f 15,f 16,f 17,f 18,f 19,f 20,f 21,f 22,f 23,f 24,f 25,f 26,f 27,f 28,f 29,f 30,f 31,f 32,f 33,f 34,f 35,f 36,f 37,f 38,f 39,f 40,f 41,f 42,f 43,f 44,f 45,f 46,f 47,f 48,f 49,f 50,f 51,f 52,f 53,f 54,f 55,f 56,f 57,f 58,f 59,f 60,f 61,f 62,f 63,f 64,f 65,f 66,f 67,f 68,f 69,f 70,f 71,f 72,f 73,f 74,f 75,f 76,f 77,f 78,f 79,f 80,f 81,f 82,f 83,f 84,f 85,f 86,f 87,f 88,f 89,f 90,f 91,f 92,f 93,f 94,f 95,f 96,f 97,f 98,f 99,f 100,f 101,f 102,f 103,f 104,f 105,f 106,f 107,f 108,f 109,f 110,f 111,f 112,f 113,f 114,f 115,f 116,f 117,f 118,f 119,f 120,f 121,f 122,f 123,f 124,f 125,f 126,f 127,f 128,f 129,f 130,f 131,f 132,f 133,f 134,f 135,f 136,f 137,f 138]:=arrg T h
noncomputable def yB7 : Code:=Try.f7.body.getD .skip
noncomputable def yr0 : Code:=nva yB7
noncomputable def yC1 : Code:=nva (nvb yB7)
noncomputable def yr1 : Code:=nva yC1
noncomputable def yw2 : Code:=nvd (nvb yC1)
noncomputable def yX3 : Code:=nvb (nvb yB7)
noncomputable def yr3 : Code:=nva yX3
noncomputable def yX4 : Code:=nvb yX3
noncomputable def yr4 : Code:=nva (nva yX4)
noncomputable def yLA : Code:=nvl (nvk (nvb (nva yX4)))
noncomputable def yX17 : Code:=nvb yX4
noncomputable def yr17 : Code:=nva yX17
noncomputable def yr18 : Code:=nva (nvb yX17)
noncomputable def yr19 : Code:=nva (nvb (nvb yX17))
noncomputable def yX20 : Code:=nvb (nvb (nvb yX17))
noncomputable def yr20 : Code:=nva (nva yX20)
noncomputable def yLF : Code:=nvl (nvk (nvb (nva yX20)))
noncomputable def yX26 : Code:=nvb yX20
noncomputable def yr26 : Code:=nva yX26
noncomputable def yr27 : Code:=nva (nvb yX26)
noncomputable def yr28 : Code:=nva (nvb (nvb yX26))
noncomputable def yX29 : Code:=nvb (nvb (nvb yX26))
noncomputable def yr29 : Code:=nva (nva yX29)
noncomputable def yw30 : Code:=nvd (nvb (nva yX29))
noncomputable def yX31 : Code:=nvb yX29
noncomputable def yr31 : Code:=nva (nva yX31)
noncomputable def yLC : Code:=nvl (nvk (nvb (nva yX31)))
noncomputable def yX36 : Code:=nvb yX31
noncomputable def yr5 : Code:=nva (nva yLA)
noncomputable def yBA : Code:=nvk (nva (nvb yLA))
noncomputable def yr6 : Code:=nvb (nvb yLA)
noncomputable def yC7 : Code:=nva yBA
noncomputable def yr7 : Code:=nva yC7
noncomputable def yw8 : Code:=nvd (nvb yC7)
noncomputable def yr9 : Code:=nva (nvb yBA)
noncomputable def yX10 : Code:=nvb (nvb yBA)
noncomputable def yr10 : Code:=nva (nva yX10)
noncomputable def yLI : Code:=nvl (nvk (nvb (nva yX10)))
noncomputable def yr16 : Code:=nvb yX10
noncomputable def yr11 : Code:=nva (nva yLI)
noncomputable def yBI : Code:=nvk (nva (nvb yLI))
noncomputable def yr12 : Code:=nvb (nvb yLI)
noncomputable def yr13 : Code:=nva yBI
noncomputable def yr14 : Code:=nva (nvb yBI)
noncomputable def yr15 : Code:=nvb (nvb yBI)
noncomputable def yr21 : Code:=nva (nva yLF)
noncomputable def yr23 : Code:=nvk (nva (nvb yLF))
noncomputable def yr24 : Code:=nva (nva (nvb (nvb yLF)))
noncomputable def yr25 : Code:=nvb (nva (nvb (nvb yLF)))
noncomputable def yr22 : Code:=nvb (nvb (nvb yLF))
noncomputable def yr32 : Code:=nva (nva yLC)
noncomputable def yC34 : Code:=nvk (nva (nvb yLC))
noncomputable def yr34 : Code:=nva yC34
noncomputable def yw35 : Code:=nvd (nvb yC34)
noncomputable def yr33 : Code:=nvb (nvb yLC)
theorem yB7_eq : yB7 = .seq yr0 (.seq (.seq yr1 (.cond (.tmp 30) yw2 .skip)) (.seq yr3 (.seq (.seq yr4 (.block 0 (.loop yLA))) (.seq yr17 (.seq yr18 (.seq yr19 (.seq (.seq yr20 (.block 4 (.loop yLF))) (.seq yr26 (.seq yr27 (.seq yr28 (.seq (.seq yr29 (.cond (.tmp 122) yw30 .skip)) (.seq (.seq yr31 (.block 6 (.loop yLC))) yX36)))))))))))):=by simp only [yX36,yLC,yr31,yX31,yw30,yr29,yX29,yr28,yr27,yr26,yX26,yLF,yr20,yX20,yr19,yr18,yr17,yX17,yLA,yr4,yX4,yr3,yX3,yw2,yr1,yC1,yr0,yB7,nva,nvb,nvk,nvl,nvd,Try.f7,Option.getD_some]
theorem yLA_eq : yLA = .seq (.seq yr5 (.cond (.tmp 35) .skip (.exit 0))) (.seq (.block 1 (.seq (.seq yr7 (.cond (.tmp 43) yw8 .skip)) (.seq yr9 (.seq (.seq yr10 (.block 2 (.loop yLI))) yr16)))) yr6):=by simp only [yr6,yr16,yLI,yr10,yX10,yr9,yw8,yr7,yC7,yBA,yr5,yLA,yX4,yX3,yB7,nva,nvb,nvk,nvl,nvd,Try.f7,Option.getD_some]
theorem yLI_eq : yLI = .seq (.seq yr11 (.cond (.tmp 51) .skip (.exit 2))) (.seq (.block 3 (.seq yr13 (.seq yr14 yr15))) yr12):=by simp only [yr12,yr15,yr14,yr13,yBI,yr11,yLI,yX10,yBA,yLA,yX4,yX3,yB7,nva,nvb,nvk,nvl,Try.f7,Option.getD_some]
theorem yLF_eq : yLF = .seq (.seq yr21 (.cond (.tmp 76) .skip (.exit 4))) (.seq (.block 5 yr23) (.seq (.seq yr24 yr25) yr22)):=by simp only [yr22,yr25,yr24,yr23,yr21,yLF,yX20,yX17,yX4,yX3,yB7,nva,nvb,nvk,nvl,Try.f7,Option.getD_some]
theorem yLC_eq : yLC = .seq (.seq yr32 (.cond (.tmp 126) .skip (.exit 6))) (.seq (.block 7 (.seq yr34 (.cond (.tmp 137) yw35 .skip))) yr33):=by simp only [yr33,yw35,yr34,yC34,yr32,yLC,yX31,yX29,yX26,yX20,yX17,yX4,yX3,yB7,nva,nvb,nvk,nvl,nvd,Try.f7,Option.getD_some]
def dm (a : Int) : Int:=bits .and .i64 a 3
theorem dm_cases (a : Int) : dm a = 0 ∨ dm a = 1 ∨ dm a = 2 ∨ dm a = 3:=by
 have h : (BitVec.ofInt 64 a &&& BitVec.ofInt 64 3).toNat ≤ 3:=by
   rw [BitVec.toNat_and]
   exact Nat.and_le_right
 have e : dm a = IntKind.i64.wrap ((BitVec.ofInt 64 a &&& BitVec.ofInt 64 3).toNat : Int):=rfl
 rw [e,IntKind.wrap_i64]
 omega
theorem isAgg3A (w : World) : (isAgg 3).run Try.prog w = .ok false w:=by
 have h : (Try.prog.info? 3).map (fun i=>(i.zero,i.size,i.bytes)) = some (some (.int .i64 0),1,8):=by kernel_rfl
 have u3:=Try.underlying3
 simp [isAgg,u3]
theorem isAgg4A (w : World) : (isAgg 4).run Try.prog w = .ok false w:=by
 have u4:=Try.underlying4
 simp [isAgg,u4]
theorem size3A (w : World) : (sizeOf 3).run Try.prog w = .ok 1 w:=by
 have h : (Try.prog.info? 3).map (fun i=>i.size) = some 1:=by kernel_rfl
 unfold sizeOf typeInfo
 cases e : Try.prog.info? 3 with
 | none=>rw [e] at h; cases h
 | some i=>rw [e] at h; simp [Sem.run_bind,e]; simpa using h
theorem size4A (w : World) : (sizeOf 4).run Try.prog w = .ok 1 w:=by
 have h : (Try.prog.info? 4).map (fun i=>i.size) = some 1:=by kernel_rfl
 unfold sizeOf typeInfo
 cases e : Try.prog.info? 4 with
 | none=>rw [e] at h; cases h
 | some i=>rw [e] at h; simp [Sem.run_bind,e]; simpa using h
theorem eq67 (x1 x2 x3 : Int) (x4 : Bool) (w : World) : (Op.equalIn 10000 67 (.agg #[.int .i64 x1,.int .i64 x2,.int .i64 x3,.bool x4]) (.agg #[.int .i64 x1,.int .i64 x2,.int .i64 x3,.bool x4])).run Try.prog w = .ok true w:=by
 have u3:=Try.underlying3
 have u4:=Try.underlying4
 have a3:=isAgg3A
 have a4:=isAgg4A
 have z3:=size3A
 have z4:=size4A
 have hS : Try.prog.underlying 67 = some (.struct (Try.prog.fieldsOf 67)):=by kernel_rfl
 have hp : Try.prog.stoodInHeld 67 = false:=by kernel_rfl
 rw [show (10000 : Nat) = 9999 + 1 from rfl,run_equalIn_agg w 9999 67 _ _ hS hp]
 simp only [Program.fieldsOf,Try.underlying67]
 go_simp
section
variable {W V : World} {Z : Cuts} {n lc pl pc u i k xc m fc tb b11 ab gb cb rb Rn g o len rc : Nat} {la pa xa fa r : Option Addr} {ov lv : Value} {v a nn od : Int} {T : Array Value} {kt : List Item} {cs0 : List Frame}
theorem u_r0 (hn : norm V = V) (hT : Fg 139 [(0,.slice la n lc),(1,.slice pa pl pc),(2,.int .u8 (u : Int))] T)
   (K : ∀ T',Fg 139 [(0,.slice la n lc),(1,.slice pa pl pc),(2,.int .u8 (u : Int))] T' → To0 Try.prog (LPost W) Z V (G ((base 7).at ⟨T',[]⟩ kt) cs0)) :
   To0 Try.prog (LPost W) Z V (G ((base 7).at ⟨T,[]⟩ (.code yr0 :: kt)) cs0):=by
 refine reg_go ⟨_,Try.func7⟩ (by kernel_rfl) K fun τ=>?_
 clear K
 obtain ⟨hs,h0,h1,h2,-⟩:=hT
 obtain ⟨f,hf,hT⟩:=array139f T hs
 rw [hT]
 simp only [hf _ _ h0,hf _ _ h1,hf _ _ h2]
 clear hf hs h0 h1 h2
 subst hT
 simp only [yr0,yB7,nva,Try.f7,Option.getD_some]
 go_wp2_with fail
 exact ⟨hn,⟨by simp,rfl,rfl,rfl,trivial⟩⟩
theorem u_r1 (hn : norm V = V) {x y : Bool} (hx : decide ((10 : Int) < (n : Int)) = x) (hy : decide ((100 : Int) < (pl : Int)) = y) (hT : Fg 139 [(0,.slice la n lc),(1,.slice pa pl pc),(2,.int .u8 (u : Int))] T)
   (K : ∀ T',Fg 139 [(0,.slice la n lc),(1,.slice pa pl pc),(2,.int .u8 (u : Int))] T' → T'[30]? = some (.bool (x || y)) → To0 Try.prog (LPost W) Z V (G ((base 7).at ⟨T',[]⟩ kt) cs0)) :
   To0 Try.prog (LPost W) Z V (G ((base 7).at ⟨T,[]⟩ (.code yr1 :: kt)) cs0):=by
 refine reg_gb ⟨_,Try.func7⟩ (by kernel_rfl) K fun τ=>?_
 clear K
 obtain ⟨hs,h0,h1,h2,-⟩:=hT
 obtain ⟨f,hf,hT⟩:=array139f T hs
 rw [hT]
 simp only [hf _ _ h0,hf _ _ h1,hf _ _ h2]
 clear hf hs h0 h1 h2
 subst hT
 simp only [yr1,yC1,yB7,nva,nvb,Try.f7,Option.getD_some]
 cases x <;> cases y <;> go_wp2_with fail
 all_goals (first | exact ⟨hn,⟨by simp,rfl,rfl,rfl,trivial⟩⟩ | exact ⟨hn,⟨by simp,rfl,rfl,rfl,trivial⟩,rfl⟩ | (exfalso; simp at hx; omega) | (exfalso; simp at hx hy; omega) | (refine ⟨hn,⟨by simp,rfl,rfl,rfl,trivial⟩,?_⟩; simp at hx ⊢; omega) | (refine ⟨hn,⟨by simp,rfl,rfl,rfl,trivial⟩,?_⟩; simp at hx hy ⊢; omega))
theorem u_r4 (hn : norm V = V) (hT : Fg 139 [(0,.slice la n lc),(1,.slice pa pl pc),(2,.int .u8 (u : Int)),(7,.pointer (some ⟨tb,0,none⟩))] T)
   (K : ∀ T',Fg 139 [(0,.slice la n lc),(1,.slice pa pl pc),(2,.int .u8 (u : Int)),(7,.pointer (some ⟨tb,0,none⟩)),(8,.int .i64 0)] T' → To0 Try.prog (LPost W) Z V (G ((base 7).at ⟨T',[]⟩ kt) cs0)) :
   To0 Try.prog (LPost W) Z V (G ((base 7).at ⟨T,[]⟩ (.code yr4 :: kt)) cs0):=by
 refine reg_go ⟨_,Try.func7⟩ (by kernel_rfl) K fun τ=>?_
 clear K
 obtain ⟨hs,h0,h1,h2,h7,-⟩:=hT
 obtain ⟨f,hf,hT⟩:=array139f T hs
 rw [hT]
 simp only [hf _ _ h0,hf _ _ h1,hf _ _ h2,hf _ _ h7]
 clear hf hs h0 h1 h2 h7
 subst hT
 simp only [yr4,yX4,yX3,yB7,nva,nvb,Try.f7,Option.getD_some]
 go_wp2_with fail
 exact ⟨hn,⟨by simp,rfl,rfl,rfl,rfl,rfl,trivial⟩⟩
theorem u_r5 (hn : norm V = V) {x : Bool} (hx : decide ((i : Int) < (n : Int)) = x) (hT : Fg 139 [(0,.slice la n lc),(1,.slice pa pl pc),(2,.int .u8 (u : Int)),(7,.pointer (some ⟨tb,0,none⟩)),(8,.int .i64 (i : Int))] T)
   (K : ∀ T',Fg 139 [(0,.slice la n lc),(1,.slice pa pl pc),(2,.int .u8 (u : Int)),(7,.pointer (some ⟨tb,0,none⟩)),(8,.int .i64 (i : Int))] T' → T'[35]? = some (.bool x) → To0 Try.prog (LPost W) Z V (G ((base 7).at ⟨T',[]⟩ kt) cs0)) :
   To0 Try.prog (LPost W) Z V (G ((base 7).at ⟨T,[]⟩ (.code yr5 :: kt)) cs0):=by
 refine reg_gb ⟨_,Try.func7⟩ (by kernel_rfl) K fun τ=>?_
 clear K
 obtain ⟨hs,h0,h1,h2,h7,h8,-⟩:=hT
 obtain ⟨f,hf,hT⟩:=array139f T hs
 rw [hT]
 simp only [hf _ _ h0,hf _ _ h1,hf _ _ h2,hf _ _ h7,hf _ _ h8]
 clear hf hs h0 h1 h2 h7 h8
 subst hT
 simp only [yr5,yLA,yX4,yX3,yB7,nva,nvb,nvk,nvl,Try.f7,Option.getD_some]
 cases x <;> go_wp2_with fail
 all_goals (first | exact ⟨hn,⟨by simp,rfl,rfl,rfl,rfl,rfl,trivial⟩⟩ | exact ⟨hn,⟨by simp,rfl,rfl,rfl,rfl,rfl,trivial⟩,rfl⟩ | (exfalso; simp at hx; omega) | (exfalso; simp at hx hy; omega) | (refine ⟨hn,⟨by simp,rfl,rfl,rfl,rfl,rfl,trivial⟩,?_⟩; simp at hx ⊢; omega) | (refine ⟨hn,⟨by simp,rfl,rfl,rfl,rfl,rfl,trivial⟩,?_⟩; simp at hx hy ⊢; omega))
theorem u_r6 (hn : norm V = V) (hk : i < 1000000) (hT : Fg 139 [(0,.slice la n lc),(1,.slice pa pl pc),(2,.int .u8 (u : Int)),(7,.pointer (some ⟨tb,0,none⟩)),(8,.int .i64 (i : Int))] T)
   (K : ∀ T',Fg 139 [(0,.slice la n lc),(1,.slice pa pl pc),(2,.int .u8 (u : Int)),(7,.pointer (some ⟨tb,0,none⟩)),(8,.int .i64 ((i + 1 : Nat) : Int))] T' → To0 Try.prog (LPost W) Z V (G ((base 7).at ⟨T',[]⟩ kt) cs0)) :
   To0 Try.prog (LPost W) Z V (G ((base 7).at ⟨T,[]⟩ (.code yr6 :: kt)) cs0):=by
 refine reg_go ⟨_,Try.func7⟩ (by kernel_rfl) K fun τ=>?_
 clear K
 have w1 : IntKind.i64.wrap ((i : Int) + 1) = ((i + 1 : Nat) : Int):=by rw [IntKind.wrap_i64]; omega
 obtain ⟨hs,h0,h1,h2,h7,h8,-⟩:=hT
 obtain ⟨f,hf,hT⟩:=array139f T hs
 rw [hT]
 simp only [hf _ _ h0,hf _ _ h1,hf _ _ h2,hf _ _ h7,hf _ _ h8]
 clear hf hs h0 h1 h2 h7 h8
 subst hT
 simp only [yr6,yLA,yX4,yX3,yB7,nva,nvb,nvk,nvl,Try.f7,Option.getD_some]
 go_wp2_with fail
 exact ⟨hn,⟨by simp,rfl,rfl,rfl,rfl,rfl,trivial⟩⟩
theorem u_r7 (hn : norm V = V) (hi : i < n) (hla : la = some ⟨g,o,none⟩) (hl : V.cell? ⟨g,o + i,none⟩ = some (.slice r len rc)) {x : Bool} (hx : decide ((20 : Int) < (len : Int)) = x) (hT : Fg 139 [(0,.slice la n lc),(1,.slice pa pl pc),(2,.int .u8 (u : Int)),(7,.pointer (some ⟨tb,0,none⟩)),(8,.int .i64 (i : Int))] T)
   (K : ∀ T',Fg 139 [(0,.slice la n lc),(1,.slice pa pl pc),(2,.int .u8 (u : Int)),(7,.pointer (some ⟨tb,0,none⟩)),(8,.int .i64 (i : Int))] T' → T'[43]? = some (.bool x) → To0 Try.prog (LPost W) Z V (G ((base 7).at ⟨T',[]⟩ kt) cs0)) :
   To0 Try.prog (LPost W) Z V (G ((base 7).at ⟨T,[]⟩ (.code yr7 :: kt)) cs0):=by
 refine reg_gb ⟨_,Try.func7⟩ (by kernel_rfl) K fun τ=>?_
 clear K
 have q1 : ¬ ((i : Int) < 0):=by omega
 have q2 : ¬ ((n : Int) ≤ (i : Int)):=by omega
 subst hla
 have d3 : (re V τ 0).cell? ⟨g,o + i,none⟩ = some (.slice r len rc):=hl
 clear hl
 obtain ⟨hs,h0,h1,h2,h7,h8,-⟩:=hT
 obtain ⟨f,hf,hT⟩:=array139f T hs
 rw [hT]
 simp only [hf _ _ h0,hf _ _ h1,hf _ _ h2,hf _ _ h7,hf _ _ h8]
 clear hf hs h0 h1 h2 h7 h8
 subst hT
 simp only [yr7,yC7,yBA,yLA,yX4,yX3,yB7,nva,nvb,nvk,nvl,Try.f7,Option.getD_some]
 cases x <;> go_wp2_with fail
 all_goals (first | exact ⟨hn,⟨by simp,rfl,rfl,rfl,rfl,rfl,trivial⟩⟩ | exact ⟨hn,⟨by simp,rfl,rfl,rfl,rfl,rfl,trivial⟩,rfl⟩ | (exfalso; simp at hx; omega) | (exfalso; simp at hx hy; omega) | (refine ⟨hn,⟨by simp,rfl,rfl,rfl,rfl,rfl,trivial⟩,?_⟩; simp at hx ⊢; omega) | (refine ⟨hn,⟨by simp,rfl,rfl,rfl,rfl,rfl,trivial⟩,?_⟩; simp at hx hy ⊢; omega))
theorem u_r9 (hn : norm V = V) (hT : Fg 139 [(0,.slice la n lc),(1,.slice pa pl pc),(2,.int .u8 (u : Int)),(7,.pointer (some ⟨tb,0,none⟩)),(8,.int .i64 (i : Int))] T)
   (K : ∀ T',Fg 139 [(0,.slice la n lc),(1,.slice pa pl pc),(2,.int .u8 (u : Int)),(7,.pointer (some ⟨tb,0,none⟩)),(8,.int .i64 (i : Int)),(9,.slice none 0 0)] T' → To0 Try.prog (LPost W) Z V (G ((base 7).at ⟨T',[]⟩ kt) cs0)) :
   To0 Try.prog (LPost W) Z V (G ((base 7).at ⟨T,[]⟩ (.code yr9 :: kt)) cs0):=by
 refine reg_go ⟨_,Try.func7⟩ (by kernel_rfl) K fun τ=>?_
 clear K
 obtain ⟨hs,h0,h1,h2,h7,h8,-⟩:=hT
 obtain ⟨f,hf,hT⟩:=array139f T hs
 rw [hT]
 simp only [hf _ _ h0,hf _ _ h1,hf _ _ h2,hf _ _ h7,hf _ _ h8]
 clear hf hs h0 h1 h2 h7 h8
 subst hT
 simp only [yr9,yBA,yLA,yX4,yX3,yB7,nva,nvb,nvk,nvl,Try.f7,Option.getD_some]
 go_wp2_with fail
 exact ⟨hn,⟨by simp,rfl,rfl,rfl,rfl,rfl,rfl,trivial⟩⟩
theorem u_r10 (hn : norm V = V) (hT : Fg 139 [(0,.slice la n lc),(1,.slice pa pl pc),(2,.int .u8 (u : Int)),(7,.pointer (some ⟨tb,0,none⟩)),(8,.int .i64 (i : Int)),(9,.slice xa k xc)] T)
   (K : ∀ T',Fg 139 [(0,.slice la n lc),(1,.slice pa pl pc),(2,.int .u8 (u : Int)),(7,.pointer (some ⟨tb,0,none⟩)),(8,.int .i64 (i : Int)),(9,.slice xa k xc),(10,.int .i64 0)] T' → To0 Try.prog (LPost W) Z V (G ((base 7).at ⟨T',[]⟩ kt) cs0)) :
   To0 Try.prog (LPost W) Z V (G ((base 7).at ⟨T,[]⟩ (.code yr10 :: kt)) cs0):=by
 refine reg_go ⟨_,Try.func7⟩ (by kernel_rfl) K fun τ=>?_
 clear K
 obtain ⟨hs,h0,h1,h2,h7,h8,h9,-⟩:=hT
 obtain ⟨f,hf,hT⟩:=array139f T hs
 rw [hT]
 simp only [hf _ _ h0,hf _ _ h1,hf _ _ h2,hf _ _ h7,hf _ _ h8,hf _ _ h9]
 clear hf hs h0 h1 h2 h7 h8 h9
 subst hT
 simp only [yr10,yX10,yBA,yLA,yX4,yX3,yB7,nva,nvb,nvk,nvl,Try.f7,Option.getD_some]
 go_wp2_with fail
 exact ⟨hn,⟨by simp,rfl,rfl,rfl,rfl,rfl,rfl,rfl,trivial⟩⟩
theorem u_r11 (hn : norm V = V) (hi : i < n) (hla : la = some ⟨g,o,none⟩) (hl : V.cell? ⟨g,o + i,none⟩ = some (.slice r len rc)) {x : Bool} (hx : decide ((k : Int) < (len : Int)) = x) (hT : Fg 139 [(0,.slice la n lc),(1,.slice pa pl pc),(2,.int .u8 (u : Int)),(7,.pointer (some ⟨tb,0,none⟩)),(8,.int .i64 (i : Int)),(9,.slice xa k xc),(10,.int .i64 (k : Int))] T)
   (K : ∀ T',Fg 139 [(0,.slice la n lc),(1,.slice pa pl pc),(2,.int .u8 (u : Int)),(7,.pointer (some ⟨tb,0,none⟩)),(8,.int .i64 (i : Int)),(9,.slice xa k xc),(10,.int .i64 (k : Int))] T' → T'[51]? = some (.bool x) → To0 Try.prog (LPost W) Z V (G ((base 7).at ⟨T',[]⟩ kt) cs0)) :
   To0 Try.prog (LPost W) Z V (G ((base 7).at ⟨T,[]⟩ (.code yr11 :: kt)) cs0):=by
 refine reg_gb ⟨_,Try.func7⟩ (by kernel_rfl) K fun τ=>?_
 clear K
 have q1 : ¬ ((i : Int) < 0):=by omega
 have q2 : ¬ ((n : Int) ≤ (i : Int)):=by omega
 subst hla
 have d3 : (re V τ 0).cell? ⟨g,o + i,none⟩ = some (.slice r len rc):=hl
 clear hl
 obtain ⟨hs,h0,h1,h2,h7,h8,h9,h10,-⟩:=hT
 obtain ⟨f,hf,hT⟩:=array139f T hs
 rw [hT]
 simp only [hf _ _ h0,hf _ _ h1,hf _ _ h2,hf _ _ h7,hf _ _ h8,hf _ _ h9,hf _ _ h10]
 clear hf hs h0 h1 h2 h7 h8 h9 h10
 subst hT
 simp only [yr11,yLI,yX10,yBA,yLA,yX4,yX3,yB7,nva,nvb,nvk,nvl,Try.f7,Option.getD_some]
 cases x <;> go_wp2_with fail
 all_goals (first | exact ⟨hn,⟨by simp,rfl,rfl,rfl,rfl,rfl,rfl,rfl,trivial⟩⟩ | exact ⟨hn,⟨by simp,rfl,rfl,rfl,rfl,rfl,rfl,rfl,trivial⟩,rfl⟩ | (exfalso; simp at hx; omega) | (exfalso; simp at hx hy; omega) | (refine ⟨hn,⟨by simp,rfl,rfl,rfl,rfl,rfl,rfl,rfl,trivial⟩,?_⟩; simp at hx ⊢; omega) | (refine ⟨hn,⟨by simp,rfl,rfl,rfl,rfl,rfl,rfl,rfl,trivial⟩,?_⟩; simp at hx hy ⊢; omega))
theorem u_r12 (hn : norm V = V) {k2 : Nat} (hk : k < 1000000) (hT : Fg 139 [(0,.slice la n lc),(1,.slice pa pl pc),(2,.int .u8 (u : Int)),(7,.pointer (some ⟨tb,0,none⟩)),(8,.int .i64 (i : Int)),(9,.slice xa k2 xc),(10,.int .i64 (k : Int))] T)
   (K : ∀ T',Fg 139 [(0,.slice la n lc),(1,.slice pa pl pc),(2,.int .u8 (u : Int)),(7,.pointer (some ⟨tb,0,none⟩)),(8,.int .i64 (i : Int)),(9,.slice xa k2 xc),(10,.int .i64 ((k + 1 : Nat) : Int))] T' → To0 Try.prog (LPost W) Z V (G ((base 7).at ⟨T',[]⟩ kt) cs0)) :
   To0 Try.prog (LPost W) Z V (G ((base 7).at ⟨T,[]⟩ (.code yr12 :: kt)) cs0):=by
 refine reg_go ⟨_,Try.func7⟩ (by kernel_rfl) K fun τ=>?_
 clear K
 have w1 : IntKind.i64.wrap ((k : Int) + 1) = ((k + 1 : Nat) : Int):=by rw [IntKind.wrap_i64]; omega
 obtain ⟨hs,h0,h1,h2,h7,h8,h9,h10,-⟩:=hT
 obtain ⟨f,hf,hT⟩:=array139f T hs
 rw [hT]
 simp only [hf _ _ h0,hf _ _ h1,hf _ _ h2,hf _ _ h7,hf _ _ h8,hf _ _ h9,hf _ _ h10]
 clear hf hs h0 h1 h2 h7 h8 h9 h10
 subst hT
 simp only [yr12,yLI,yX10,yBA,yLA,yX4,yX3,yB7,nva,nvb,nvk,nvl,Try.f7,Option.getD_some]
 go_wp2_with fail
 exact ⟨hn,⟨by simp,rfl,rfl,rfl,rfl,rfl,rfl,rfl,trivial⟩⟩
theorem u_r14 (hn : norm V = V) (e11 : V.heap[b11]? = some (.cells #[.int .i64 a,.int .i64 nn,.int .i64 od] 57 (0,0))) (hT : Fg 139 [(0,.slice la n lc),(1,.slice pa pl pc),(2,.int .u8 (u : Int)),(7,.pointer (some ⟨tb,0,none⟩)),(8,.int .i64 (i : Int)),(9,.slice xa k xc),(10,.int .i64 (k : Int)),(11,.pointer (some ⟨b11,0,none⟩))] T)
   (K : ∀ T',Fg 139 [(0,.slice la n lc),(1,.slice pa pl pc),(2,.int .u8 (u : Int)),(7,.pointer (some ⟨tb,0,none⟩)),(8,.int .i64 (i : Int)),(9,.slice xa k xc),(10,.int .i64 (k : Int)),(11,.pointer (some ⟨b11,0,none⟩))] T' → To0 Try.prog (LPost W) Z (V.setCell ⟨b11,0,none⟩ (.int .i64 (bits .and .i64 a 3))) (G ((base 7).at ⟨T',[]⟩ kt) cs0)) :
   To0 Try.prog (LPost W) Z V (G ((base 7).at ⟨T,[]⟩ (.code yr14 :: kt)) cs0):=by
 refine reg_go ⟨_,Try.func7⟩ (by kernel_rfl) K fun τ=>?_
 clear K
 have c0 : (re V τ 0).cell? ⟨b11,0,none⟩ = some (.int .i64 a):=cell_of e11 (by simp)
 have z0 : (re V τ 0).frozen? ⟨b11,0,none⟩ = false:=by simp [World.frozen?,re,e11]
 clear e11
 obtain ⟨hs,h0,h1,h2,h7,h8,h9,h10,h11,-⟩:=hT
 obtain ⟨f,hf,hT⟩:=array139f T hs
 rw [hT]
 simp only [hf _ _ h0,hf _ _ h1,hf _ _ h2,hf _ _ h7,hf _ _ h8,hf _ _ h9,hf _ _ h10,hf _ _ h11]
 clear hf hs h0 h1 h2 h7 h8 h9 h10 h11
 subst hT
 simp only [yr14,yBI,yLI,yX10,yBA,yLA,yX4,yX3,yB7,nva,nvb,nvk,nvl,Try.f7,Option.getD_some]
 go_wp2_with fail
 exact ⟨norm_set hn _ _,⟨by simp,rfl,rfl,rfl,rfl,rfl,rfl,rfl,rfl,trivial⟩⟩
theorem u_r19 (hn : norm V = V) (hT : Fg 139 [(1,.slice pa pl pc),(2,.int .u8 (u : Int)),(7,.pointer (some ⟨tb,0,none⟩)),(12,.pointer (some ⟨ab,0,none⟩)),(13,.pointer (some ⟨gb,0,none⟩))] T)
   (K : ∀ T',Fg 139 [(1,.slice pa pl pc),(2,.int .u8 (u : Int)),(7,.pointer (some ⟨tb,0,none⟩)),(12,.pointer (some ⟨ab,0,none⟩)),(13,.pointer (some ⟨gb,0,none⟩)),(14,.slice none 0 0)] T' → To0 Try.prog (LPost W) Z V (G ((base 7).at ⟨T',[]⟩ kt) cs0)) :
   To0 Try.prog (LPost W) Z V (G ((base 7).at ⟨T,[]⟩ (.code yr19 :: kt)) cs0):=by
 refine reg_go ⟨_,Try.func7⟩ (by kernel_rfl) K fun τ=>?_
 clear K
 obtain ⟨hs,h1,h2,h7,h12,h13,-⟩:=hT
 obtain ⟨f,hf,hT⟩:=array139f T hs
 rw [hT]
 simp only [hf _ _ h1,hf _ _ h2,hf _ _ h7,hf _ _ h12,hf _ _ h13]
 clear hf hs h1 h2 h7 h12 h13
 subst hT
 simp only [yr19,yX17,yX4,yX3,yB7,nva,nvb,Try.f7,Option.getD_some]
 go_wp2_with fail
 exact ⟨hn,⟨by simp,rfl,rfl,rfl,rfl,rfl,rfl,trivial⟩⟩
theorem u_r21 (hn : norm V = V) (ec : V.heap[cb]? = some (.cells #[.int .i64 (k : Int)] 3 (0,0))) {ta : Option Addr} {tc : Nat} (et : V.heap[tb]? = some (.cells #[.slice ta n tc] 54 (0,0))) {x : Bool} (hx : decide ((k : Int) < (n : Int)) = x) (hT : Fg 139 [(1,.slice pa pl pc),(2,.int .u8 (u : Int)),(7,.pointer (some ⟨tb,0,none⟩)),(12,.pointer (some ⟨ab,0,none⟩)),(13,.pointer (some ⟨gb,0,none⟩)),(14,.slice fa m fc),(15,.pointer (some ⟨cb,0,none⟩))] T)
   (K : ∀ T',Fg 139 [(1,.slice pa pl pc),(2,.int .u8 (u : Int)),(7,.pointer (some ⟨tb,0,none⟩)),(12,.pointer (some ⟨ab,0,none⟩)),(13,.pointer (some ⟨gb,0,none⟩)),(14,.slice fa m fc),(15,.pointer (some ⟨cb,0,none⟩))] T' → T'[76]? = some (.bool x) → To0 Try.prog (LPost W) Z V (G ((base 7).at ⟨T',[]⟩ kt) cs0)) :
   To0 Try.prog (LPost W) Z V (G ((base 7).at ⟨T,[]⟩ (.code yr21 :: kt)) cs0):=by
 refine reg_gb ⟨_,Try.func7⟩ (by kernel_rfl) K fun τ=>?_
 clear K
 have c0 : (re V τ 0).cell? ⟨cb,0,none⟩ = some (.int .i64 (k : Int)):=cell_of ec (by simp)
 have z0 : (re V τ 0).frozen? ⟨cb,0,none⟩ = false:=by simp [World.frozen?,re,ec]
 clear ec
 have c1 : (re V τ 0).cell? ⟨tb,0,none⟩ = some (.slice ta n tc):=cell_of et (by simp)
 clear et
 obtain ⟨hs,h1,h2,h7,h12,h13,h14,h15,-⟩:=hT
 obtain ⟨f,hf,hT⟩:=array139f T hs
 rw [hT]
 simp only [hf _ _ h1,hf _ _ h2,hf _ _ h7,hf _ _ h12,hf _ _ h13,hf _ _ h14,hf _ _ h15]
 clear hf hs h1 h2 h7 h12 h13 h14 h15
 subst hT
 simp only [yr21,yLF,yX20,yX17,yX4,yX3,yB7,nva,nvb,nvk,nvl,Try.f7,Option.getD_some]
 cases x <;> go_wp2_with fail
 all_goals (first | exact ⟨hn,⟨by simp,rfl,rfl,rfl,rfl,rfl,rfl,rfl,trivial⟩⟩ | exact ⟨hn,⟨by simp,rfl,rfl,rfl,rfl,rfl,rfl,rfl,trivial⟩,rfl⟩ | (exfalso; simp at hx; omega) | (exfalso; simp at hx hy; omega) | (refine ⟨hn,⟨by simp,rfl,rfl,rfl,rfl,rfl,rfl,rfl,trivial⟩,?_⟩; simp at hx ⊢; omega) | (refine ⟨hn,⟨by simp,rfl,rfl,rfl,rfl,rfl,rfl,rfl,trivial⟩,?_⟩; simp at hx hy ⊢; omega))
theorem u_r24 (hn : norm V = V) (ec : V.heap[cb]? = some (.cells #[.int .i64 (k : Int)] 3 (0,0))) (hT : Fg 139 [(1,.slice pa pl pc),(2,.int .u8 (u : Int)),(7,.pointer (some ⟨tb,0,none⟩)),(12,.pointer (some ⟨ab,0,none⟩)),(13,.pointer (some ⟨gb,0,none⟩)),(14,.slice fa m fc),(15,.pointer (some ⟨cb,0,none⟩))] T)
   (K : ∀ T',Fg 139 [(1,.slice pa pl pc),(2,.int .u8 (u : Int)),(7,.pointer (some ⟨tb,0,none⟩)),(12,.pointer (some ⟨ab,0,none⟩)),(13,.pointer (some ⟨gb,0,none⟩)),(14,.slice fa m fc),(15,.pointer (some ⟨cb,0,none⟩)),(83,.int .i64 (k : Int))] T' → To0 Try.prog (LPost W) Z V (G ((base 7).at ⟨T',[]⟩ kt) cs0)) :
   To0 Try.prog (LPost W) Z V (G ((base 7).at ⟨T,[]⟩ (.code yr24 :: kt)) cs0):=by
 refine reg_go ⟨_,Try.func7⟩ (by kernel_rfl) K fun τ=>?_
 clear K
 have c0 : (re V τ 0).cell? ⟨cb,0,none⟩ = some (.int .i64 (k : Int)):=cell_of ec (by simp)
 have z0 : (re V τ 0).frozen? ⟨cb,0,none⟩ = false:=by simp [World.frozen?,re,ec]
 clear ec
 obtain ⟨hs,h1,h2,h7,h12,h13,h14,h15,-⟩:=hT
 obtain ⟨f,hf,hT⟩:=array139f T hs
 rw [hT]
 simp only [hf _ _ h1,hf _ _ h2,hf _ _ h7,hf _ _ h12,hf _ _ h13,hf _ _ h14,hf _ _ h15]
 clear hf hs h1 h2 h7 h12 h13 h14 h15
 subst hT
 simp only [yr24,yLF,yX20,yX17,yX4,yX3,yB7,nva,nvb,nvk,nvl,Try.f7,Option.getD_some]
 go_wp2_with fail
 exact ⟨hn,⟨by simp,rfl,rfl,rfl,rfl,rfl,rfl,rfl,rfl,trivial⟩⟩
theorem u_r22 (hn : norm V = V) (ec : V.heap[cb]? = some (.cells #[.int .i64 (k : Int)] 3 (0,0))) (hk : k < 1000000) (hT : Fg 139 [(1,.slice pa pl pc),(2,.int .u8 (u : Int)),(7,.pointer (some ⟨tb,0,none⟩)),(12,.pointer (some ⟨ab,0,none⟩)),(13,.pointer (some ⟨gb,0,none⟩)),(14,.slice fa m fc),(15,.pointer (some ⟨cb,0,none⟩))] T)
   (K : ∀ T',Fg 139 [(1,.slice pa pl pc),(2,.int .u8 (u : Int)),(7,.pointer (some ⟨tb,0,none⟩)),(12,.pointer (some ⟨ab,0,none⟩)),(13,.pointer (some ⟨gb,0,none⟩)),(14,.slice fa m fc),(15,.pointer (some ⟨cb,0,none⟩))] T' → To0 Try.prog (LPost W) Z (V.setCell ⟨cb,0,none⟩ (.int .i64 ((k + 1 : Nat) : Int))) (G ((base 7).at ⟨T',[]⟩ kt) cs0)) :
   To0 Try.prog (LPost W) Z V (G ((base 7).at ⟨T,[]⟩ (.code yr22 :: kt)) cs0):=by
 refine reg_go ⟨_,Try.func7⟩ (by kernel_rfl) K fun τ=>?_
 clear K
 have c0 : (re V τ 0).cell? ⟨cb,0,none⟩ = some (.int .i64 (k : Int)):=cell_of ec (by simp)
 have z0 : (re V τ 0).frozen? ⟨cb,0,none⟩ = false:=by simp [World.frozen?,re,ec]
 clear ec
 have w1 : IntKind.i64.wrap ((k : Int) + 1) = ((k + 1 : Nat) : Int):=by rw [IntKind.wrap_i64]; omega
 obtain ⟨hs,h1,h2,h7,h12,h13,h14,h15,-⟩:=hT
 obtain ⟨f,hf,hT⟩:=array139f T hs
 rw [hT]
 simp only [hf _ _ h1,hf _ _ h2,hf _ _ h7,hf _ _ h12,hf _ _ h13,hf _ _ h14,hf _ _ h15]
 clear hf hs h1 h2 h7 h12 h13 h14 h15
 subst hT
 simp only [yr22,yLF,yX20,yX17,yX4,yX3,yB7,nva,nvb,nvk,nvl,Try.f7,Option.getD_some]
 go_wp2_with fail
 exact ⟨norm_set hn _ _,⟨by simp,rfl,rfl,rfl,rfl,rfl,rfl,rfl,trivial⟩⟩
theorem u_r26 (hn : norm V = V) (hu : u < 256) (hr : u % 25 = Rn) (hT : Fg 139 [(1,.slice pa pl pc),(2,.int .u8 (u : Int)),(7,.pointer (some ⟨tb,0,none⟩)),(12,.pointer (some ⟨ab,0,none⟩)),(13,.pointer (some ⟨gb,0,none⟩)),(14,.slice fa m fc)] T)
   (K : ∀ T',Fg 139 [(1,.slice pa pl pc),(7,.pointer (some ⟨tb,0,none⟩)),(12,.pointer (some ⟨ab,0,none⟩)),(13,.pointer (some ⟨gb,0,none⟩)),(14,.slice fa m fc),(16,.int .i64 (Rn : Int))] T' → To0 Try.prog (LPost W) Z V (G ((base 7).at ⟨T',[]⟩ kt) cs0)) :
   To0 Try.prog (LPost W) Z V (G ((base 7).at ⟨T,[]⟩ (.code yr26 :: kt)) cs0):=by
 refine reg_go ⟨_,Try.func7⟩ (by kernel_rfl) K fun τ=>?_
 clear K
 have w1 : IntKind.i64.wrap (u : Int) = (u : Int):=by rw [IntKind.wrap_i64]; omega
 have w0 : (u : Int).tmod 25 = (Rn : Int):=by rw [Int.tmod_eq_emod_of_nonneg (by omega),← hr]; simp
 have w2 : IntKind.i64.wrap (Rn : Int) = (Rn : Int):=by rw [IntKind.wrap_i64]; omega
 clear hr
 obtain ⟨hs,h1,h2,h7,h12,h13,h14,-⟩:=hT
 obtain ⟨f,hf,hT⟩:=array139f T hs
 rw [hT]
 simp only [hf _ _ h1,hf _ _ h2,hf _ _ h7,hf _ _ h12,hf _ _ h13,hf _ _ h14]
 clear hf hs h1 h2 h7 h12 h13 h14
 subst hT
 simp only [yr26,yX26,yX20,yX17,yX4,yX3,yB7,nva,nvb,Try.f7,Option.getD_some]
 go_wp2_with fail
 exact ⟨hn,⟨by simp,rfl,rfl,rfl,rfl,rfl,rfl,trivial⟩⟩
theorem u_r31 (hn : norm V = V) (hT : Fg 139 [(13,.pointer (some ⟨gb,0,none⟩)),(20,lv)] T)
   (K : ∀ T',Fg 139 [(13,.pointer (some ⟨gb,0,none⟩)),(20,lv),(22,.int .i64 0)] T' → To0 Try.prog (LPost W) Z V (G ((base 7).at ⟨T',[]⟩ kt) cs0)) :
   To0 Try.prog (LPost W) Z V (G ((base 7).at ⟨T,[]⟩ (.code yr31 :: kt)) cs0):=by
 refine reg_go ⟨_,Try.func7⟩ (by kernel_rfl) K fun τ=>?_
 clear K
 obtain ⟨hs,h13,h20,-⟩:=hT
 obtain ⟨f,hf,hT⟩:=array139f T hs
 rw [hT]
 simp only [hf _ _ h13,hf _ _ h20]
 clear hf hs h13 h20
 subst hT
 simp only [yr31,yX31,yX29,yX26,yX20,yX17,yX4,yX3,yB7,nva,nvb,Try.f7,Option.getD_some]
 go_wp2_with fail
 exact ⟨hn,⟨by simp,rfl,rfl,rfl,trivial⟩⟩
theorem u_r32 (hn : norm V = V) {l1 : Option Addr} {lm lk : Nat} (eg : V.heap[gb]? = some (.cells #[.slice l1 lm lk] 65 (0,0))) {x : Bool} (hx : decide ((k : Int) < (lm : Int)) = x) (hT : Fg 139 [(13,.pointer (some ⟨gb,0,none⟩)),(20,lv),(22,.int .i64 (k : Int))] T)
   (K : ∀ T',Fg 139 [(13,.pointer (some ⟨gb,0,none⟩)),(20,lv),(22,.int .i64 (k : Int))] T' → T'[126]? = some (.bool x) → To0 Try.prog (LPost W) Z V (G ((base 7).at ⟨T',[]⟩ kt) cs0)) :
   To0 Try.prog (LPost W) Z V (G ((base 7).at ⟨T,[]⟩ (.code yr32 :: kt)) cs0):=by
 refine reg_gb ⟨_,Try.func7⟩ (by kernel_rfl) K fun τ=>?_
 clear K
 have c1 : (re V τ 0).cell? ⟨gb,0,none⟩ = some (.slice l1 lm lk):=cell_of eg (by simp)
 clear eg
 obtain ⟨hs,h13,h20,h22,-⟩:=hT
 obtain ⟨f,hf,hT⟩:=array139f T hs
 rw [hT]
 simp only [hf _ _ h13,hf _ _ h20,hf _ _ h22]
 clear hf hs h13 h20 h22
 subst hT
 simp only [yr32,yLC,yX31,yX29,yX26,yX20,yX17,yX4,yX3,yB7,nva,nvb,nvk,nvl,Try.f7,Option.getD_some]
 cases x <;> go_wp2_with fail
 all_goals (first | exact ⟨hn,⟨by simp,rfl,rfl,rfl,trivial⟩⟩ | exact ⟨hn,⟨by simp,rfl,rfl,rfl,trivial⟩,rfl⟩ | (exfalso; simp at hx; omega) | (exfalso; simp at hx hy; omega) | (refine ⟨hn,⟨by simp,rfl,rfl,rfl,trivial⟩,?_⟩; simp at hx ⊢; omega) | (refine ⟨hn,⟨by simp,rfl,rfl,rfl,trivial⟩,?_⟩; simp at hx hy ⊢; omega))
theorem u_r33 (hn : norm V = V) (hk : k < 1000000) (hT : Fg 139 [(13,.pointer (some ⟨gb,0,none⟩)),(20,lv),(22,.int .i64 (k : Int))] T)
   (K : ∀ T',Fg 139 [(13,.pointer (some ⟨gb,0,none⟩)),(20,lv),(22,.int .i64 ((k + 1 : Nat) : Int))] T' → To0 Try.prog (LPost W) Z V (G ((base 7).at ⟨T',[]⟩ kt) cs0)) :
   To0 Try.prog (LPost W) Z V (G ((base 7).at ⟨T,[]⟩ (.code yr33 :: kt)) cs0):=by
 refine reg_go ⟨_,Try.func7⟩ (by kernel_rfl) K fun τ=>?_
 clear K
 have w1 : IntKind.i64.wrap ((k : Int) + 1) = ((k + 1 : Nat) : Int):=by rw [IntKind.wrap_i64]; omega
 obtain ⟨hs,h13,h20,h22,-⟩:=hT
 obtain ⟨f,hf,hT⟩:=array139f T hs
 rw [hT]
 simp only [hf _ _ h13,hf _ _ h20,hf _ _ h22]
 clear hf hs h13 h20 h22
 subst hT
 simp only [yr33,yLC,yX31,yX29,yX26,yX20,yX17,yX4,yX3,yB7,nva,nvb,nvk,nvl,Try.f7,Option.getD_some]
 go_wp2_with fail
 exact ⟨hn,⟨by simp,rfl,rfl,rfl,trivial⟩⟩
theorem u_r34 (hn : norm V = V) {l1 : Option Addr} {lm lk : Nat} (eg : V.heap[gb]? = some (.cells #[.slice l1 lm lk] 65 (0,0))) {l2 : Option Addr} {l2k : Nat} {g1 g2 : Nat} {x1 x2 x3 : Int} {x4 : Bool} (hk : k < lm) (e1 : l1 = some ⟨g1,0,none⟩) (e2 : l2 = some ⟨g2,0,none⟩) (c10 : V.cell? ⟨g1,k * 4,none⟩ = some (.int .i64 x1)) (c11 : V.cell? ⟨g1,k * 4 + 1,none⟩ = some (.int .i64 x2)) (c12 : V.cell? ⟨g1,k * 4 + 2,none⟩ = some (.int .i64 x3)) (c13 : V.cell? ⟨g1,k * 4 + 3,none⟩ = some (.bool x4)) (c20 : V.cell? ⟨g2,k * 4,none⟩ = some (.int .i64 x1)) (c21 : V.cell? ⟨g2,k * 4 + 1,none⟩ = some (.int .i64 x2)) (c22 : V.cell? ⟨g2,k * 4 + 2,none⟩ = some (.int .i64 x3)) (c23 : V.cell? ⟨g2,k * 4 + 3,none⟩ = some (.bool x4)) (hT : Fg 139 [(13,.pointer (some ⟨gb,0,none⟩)),(20,.slice l2 lm l2k),(22,.int .i64 (k : Int))] T)
   (K : ∀ T',Fg 139 [(13,.pointer (some ⟨gb,0,none⟩)),(20,.slice l2 lm l2k),(22,.int .i64 (k : Int))] T' → T'[137]? = some (.bool false) → To0 Try.prog (LPost W) Z V (G ((base 7).at ⟨T',[]⟩ kt) cs0)) :
   To0 Try.prog (LPost W) Z V (G ((base 7).at ⟨T,[]⟩ (.code yr34 :: kt)) cs0):=by
 refine reg_gb ⟨_,Try.func7⟩ (by kernel_rfl) K fun τ=>?_
 clear K
 have c1 : (re V τ 0).cell? ⟨gb,0,none⟩ = some (.slice l1 lm lk):=cell_of eg (by simp)
 clear eg
 have L10 : ∀ τ,(re V τ 0).cell? ⟨g1,k * 4,none⟩ = some (.int .i64 x1):=fun τ=>c10
 have L11 : ∀ τ,(re V τ 0).cell? ⟨g1,k * 4 + 1,none⟩ = some (.int .i64 x2):=fun τ=>c11
 have L12 : ∀ τ,(re V τ 0).cell? ⟨g1,k * 4 + 2,none⟩ = some (.int .i64 x3):=fun τ=>c12
 have L13 : ∀ τ,(re V τ 0).cell? ⟨g1,k * 4 + 3,none⟩ = some (.bool x4):=fun τ=>c13
 have L20 : ∀ τ,(re V τ 0).cell? ⟨g2,k * 4,none⟩ = some (.int .i64 x1):=fun τ=>c20
 have L21 : ∀ τ,(re V τ 0).cell? ⟨g2,k * 4 + 1,none⟩ = some (.int .i64 x2):=fun τ=>c21
 have L22 : ∀ τ,(re V τ 0).cell? ⟨g2,k * 4 + 2,none⟩ = some (.int .i64 x3):=fun τ=>c22
 have L23 : ∀ τ,(re V τ 0).cell? ⟨g2,k * 4 + 3,none⟩ = some (.bool x4):=fun τ=>c23
 have EQ:=eq67 x1 x2 x3 x4
 have q2 : ¬ ((k : Int) < 0):=by omega
 have q3 : ¬ ((lm : Int) ≤ (k : Int)):=by omega
 subst e1 e2
 clear c10 c11 c12 c13 c20 c21 c22 c23
 obtain ⟨hs,h13,h20,h22,-⟩:=hT
 obtain ⟨f,hf,hT⟩:=array139f T hs
 rw [hT]
 simp only [hf _ _ h13,hf _ _ h20,hf _ _ h22]
 clear hf hs h13 h20 h22
 subst hT
 simp only [yr34,yC34,yLC,yX31,yX29,yX26,yX20,yX17,yX4,yX3,yB7,nva,nvb,nvk,nvl,Try.f7,Option.getD_some]
 (go_wp2; go_quiet (fail); go_wp2)
 all_goals (first | exact ⟨hn,⟨by simp,rfl,rfl,rfl,trivial⟩⟩ | exact ⟨hn,⟨by simp,rfl,rfl,rfl,trivial⟩,rfl⟩ | (exfalso; simp at hx; omega) | (exfalso; simp at hx hy; omega) | (refine ⟨hn,⟨by simp,rfl,rfl,rfl,trivial⟩,?_⟩; simp at hx ⊢; omega) | (refine ⟨hn,⟨by simp,rfl,rfl,rfl,trivial⟩,?_⟩; simp at hx hy ⊢; omega))
end
end Go.Proofs.Ytibcdikfbhmheaa
