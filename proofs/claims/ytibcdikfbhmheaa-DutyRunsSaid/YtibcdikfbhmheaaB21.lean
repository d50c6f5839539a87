import Derived.Test.YtibcdikfbhmheaaB17
import Derived.Test.YtibcdikfbhmheaaB20
import Derived.Deep.SlicePairs
import Derived.SizedLaws
set_option linter.unusedSimpArgs false
set_option linter.unusedVariables false
set_option maxRecDepth 100000
set_option maxHeartbeats 4000000
namespace Go.Proofs.Ytibcdikfbhmheaa
open Go Go.Conc Go.Proofs Go.ChangeShapes Go.WideShapes Go.ChangeAt Go.RowKit
set_option linter.unusedVariables false
theorem addr_add (b off k : Nat) : (⟨b,off,none⟩ : Addr).add k = ⟨b,off + k,none⟩:=by
 unfold Addr.add
 split
 · rename_i h; rw [h]; rfl
 · rfl
theorem wts_all {H : Type} {P : Program} {e : TypeId} : ∀ {ds : List (DataW H)} {d : DataW H},d ∈ ds → ∀ n ∈ d.weights P e,n ∈ DataW.weightsAll P e ds
 | x :: r,d,h,n,hn=>by
   rw [DataW.weightsAll,List.mem_append]
   rcases List.mem_cons.1 h with rfl | h
   · exact .inl hn
   · exact .inr (wts_all h n hn)
section
variable {H : Type} {enc : TypeId × Value → H} {W : World}
theorem und203 : ∃ f0 f1 : Field,Try.prog.underlying 203 = some (.struct #[f0,f1]) ∧ f0.offset = 0 ∧ f1.offset = 1 ∧ f0.type = 3 ∧ f1.type = 3:=⟨_,_,Try.underlying203,rfl,rfl,rfl,rfl⟩
theorem open_act {v : Value} {fuel : Nat} {x : DataW H × List MemPlace} (h : DataW.trod enc Try.prog W 0 (fun _=>true) true fuel 44 [v] = some x) (hw : ∀ n ∈ x.1.weights Try.prog 44,n ≤ reachBytes) :
   ∃ y : List (Int × Int) × Option Addr × Nat,v = .slice y.2.1 y.1.length y.2.2 ∧ y.1.length ≤ 10000000000000 ∧ (0 < y.1.length → ∃ g o,y.2.1 = some ⟨g,o,none⟩ ∧ g < (vw W).heap.size ∧ ∀ j (hj : j < y.1.length),(vw W).cell? ⟨g,o + j * 2,none⟩ = some (.int .i64 (y.1[j]'hj).1) ∧ (vw W).cell? ⟨g,o + j * 2 + 1,none⟩ = some (.int .i64 (y.1[j]'hj).2)):=by
 obtain ⟨f0,f1,u1,o0,o1,t0,t1⟩:=und203
 rcases Go.Deep.open_slice_pairs Try.underlying44 u1 (by kernel_rfl) o0 o1 (by rw [t0]; kernel_rfl) (by rw [t1]; kernel_rfl) h with ⟨hcs,_⟩ | ⟨a,len,cap,m,n,V0,V1,D0,D1,P0,P1,hcs,_,hl,_,hm,hx,hc⟩
 · obtain rfl : v = .slice none 0 0:=by simpa using hcs
   exact ⟨([],none,0),rfl,by simp,fun h=>absurd h (by simp)⟩
 · obtain rfl : v = .slice (some a) len cap:=by simpa using hcs
   simp only [if_true] at hm
   subst hm
   have hbytes : Try.prog.bytesOf 203 = 16:=by kernel_rfl
   have hlen : len * 16 ≤ reachBytes:=by
     have:=hw ((len + (m - len)) * 16) (by
       rw [hx]
       simp only [DataW.weights,Try.underlying44,List.length_map,List.length_range,hbytes,List.mem_cons,true_or])
     omega
   have hcell : ∀ i,i < len → ∃ z : Int × Int,W.cell? (a.add (i * 2)) = some (.int .i64 z.1) ∧ W.cell? (a.add (i * 2 + 1)) = some (.int .i64 z.2):=fun i hi=>by
     obtain ⟨c0,c1,e0,e1⟩:=hc i (by omega)
     rw [t0] at e0
     rw [t1] at e1
     obtain ⟨z0,h0,_,_⟩:=DataW.trod_int Try.underlying3 e0
     obtain ⟨z1,h1,_,_⟩:=DataW.trod_int Try.underlying3 e1
     refine ⟨(z0,z1),?_,?_⟩
     · rw [c0]; simpa using h0
     · rw [c1]; simpa using h1
   obtain ⟨z,hz⟩:=Go.Deep.choose_lt hcell
   have hL : ((List.range len).map z).length = len:=by simp
   refine ⟨((List.range len).map z,some a,m),by show _ = Value.slice (some a) ((List.range len).map z).length m; rw [hL],by show ((List.range len).map z).length ≤ _; rw [hL]; simp only [reachBytes] at hlen; omega,fun h0=>?_⟩
   replace h0 : 0 < ((List.range len).map z).length:=h0
   rw [hL] at h0
   have h1:=(hz 0 h0).1
   have hs : (a.add (0 * 2)).spot = none:=cell_row h1
   rw [Nat.zero_mul] at hs h1
   have ha0 : a.add 0 = a:=by simp [Addr.add]
   rw [ha0] at hs h1
   obtain ⟨b,off,spot⟩:=a
   obtain rfl : spot = none:=hs
   refine ⟨b,off,rfl,by rw [vw_size]; exact cell_lt h1,fun j hj=>?_⟩
   replace hj : j < ((List.range len).map z).length:=hj
   have hj' : j < len:=by rw [hL] at hj; exact hj
   obtain ⟨g0,g1⟩:=hz j hj'
   rw [addr_add] at g0 g1
   have ez : (((List.range len).map z)[j]'hj) = z j:=by simp
   show (vw W).cell? ⟨b,off + j * 2,none⟩ = some (.int .i64 (((List.range len).map z)[j]'hj).1) ∧ (vw W).cell? ⟨b,off + j * 2 + 1,none⟩ = some (.int .i64 (((List.range len).map z)[j]'hj).2)
   rw [ez]
   exact ⟨vw_cell g0,vw_cell (by rw [Nat.add_assoc]; exact g1)⟩
theorem open_acts {v : Value} {d : DataW H} {ps : List MemPlace} {r : Reach} {b0 : Nat} (hval : Value.okWide Try.prog W r b0 22 v) (h : DataW.Trod enc Try.prog W 0 (fun _=>true) true 22 v d ps) (hw : ∀ n ∈ d.weights Try.prog 22,n ≤ reachBytes) :
   ∃ (la : Option Addr) (n lc : Nat) (acts : Nat → List (Int × Int)) (ra : Nat → Option Addr) (rc : Nat → Nat),v = .slice la n lc ∧ Rw (vw W) la n acts ra rc ∧ ∀ i,i < n → (acts i).length ≤ 10000000000000:=by
 obtain ⟨a0,len,cap,rfl⟩:=okWide_slice Try.underlying22 hval
 obtain ⟨fuel,hf⟩:=h
 rcases Go.Deep.open_slice1 Try.underlying22 (by kernel_rfl) hf with ⟨hcs,_⟩ | ⟨a,len',cap',m,n,V,D,Pl,hcs,_,hl,_,hm,hx,hc⟩
 · simp [Value.cells] at hcs
   obtain ⟨rfl,rfl,rfl⟩:=hcs
   exact ⟨none,0,0,fun _=>[],fun _=>none,fun _=>0,rfl,⟨fun h=>absurd h (by omega),fun i hi=>absurd hi (by omega)⟩,fun i hi=>absurd hi (by omega)⟩
 · simp [Value.cells] at hcs
   obtain ⟨rfl,rfl,rfl⟩:=hcs
   simp only [if_true] at hm
   have hd:=congrArg Prod.fst hx
   simp only at hd
   have each : ∀ i,i < len → ∃ y : List (Int × Int) × Option Addr × Nat,V i = .slice y.2.1 y.1.length y.2.2 ∧ y.1.length ≤ 10000000000000 ∧ (0 < y.1.length → ∃ g o,y.2.1 = some ⟨g,o,none⟩ ∧ g < (vw W).heap.size ∧ ∀ j (hj : j < y.1.length),(vw W).cell? ⟨g,o + j * 2,none⟩ = some (.int .i64 (y.1[j]'hj).1) ∧ (vw W).cell? ⟨g,o + j * 2 + 1,none⟩ = some (.int .i64 (y.1[j]'hj).2)):=fun i hi=>by
     refine open_act (hc i (by omega)).2 fun k hk=>hw k ?_
     rw [hd]
     simp only [DataW.weights,Try.underlying22,List.mem_cons,List.mem_append]
     exact .inr (.inl (wts_all (List.mem_map.2 ⟨i,List.mem_range.2 hi,rfl⟩) k hk))
   obtain ⟨y,hy⟩:=Go.Deep.choose_lt each
   refine ⟨some a,len,cap,fun i=>(y i).1,fun i=>(y i).2.1,fun i=>(y i).2.2,rfl,⟨fun h0=>?_,fun i hi h0=>(hy i hi).2.2 h0⟩,fun i hi=>(hy i hi).2.1⟩
   have h1:=(hc 0 (by omega)).1
   have ha0 : a.add 0 = a:=by simp [Addr.add]
   rw [ha0] at h1
   have hs:=cell_row h1
   obtain ⟨b,off,spot⟩:=a
   obtain rfl : spot = none:=hs
   refine ⟨b,off,rfl,by rw [vw_size]; exact cell_lt h1,fun j hj=>?_⟩
   have g0:=(hc j (by omega)).1
   rw [addr_add] at g0
   rw [vw_cell g0,(hy j hj).1]
end
end Go.Proofs.Ytibcdikfbhmheaa

namespace Go.Proofs.Ytibcdikfbhmheaa
open Go Go.Conc Go.Proofs
open Go.ConcN (sumTo upd sumTo_upd upd_ne upd_same)
set_option linter.unusedVariables false
theorem array36 (T : Array Value) (h : T.size = 36) : ∃ v0 v1 v2 v3 v4 v5 v6 v7 v8 v9 v10 v11 v12 v13 v14 v15 v16 v17 v18 v19 v20 v21 v22 v23 v24 v25 v26 v27 v28 v29 v30 v31 v32 v33 v34 v35 : Value,T = #[v0,v1,v2,v3,v4,v5,v6,v7,v8,v9,v10,v11,v12,v13,v14,v15,v16,v17,v18,v19,v20,v21,v22,v23,v24,v25,v26,v27,v28,v29,v30,v31,v32,v33,v34,v35]:=by
 obtain ⟨l⟩:=T
 simp only [List.size_toArray] at h
 rcases l with _ | ⟨v0,l⟩
 · simp at h
 rcases l with _ | ⟨v1,l⟩
 · simp at h
 rcases l with _ | ⟨v2,l⟩
 · simp at h
 rcases l with _ | ⟨v3,l⟩
 · simp at h
 rcases l with _ | ⟨v4,l⟩
 · simp at h
 rcases l with _ | ⟨v5,l⟩
 · simp at h
 rcases l with _ | ⟨v6,l⟩
 · simp at h
 rcases l with _ | ⟨v7,l⟩
 · simp at h
 rcases l with _ | ⟨v8,l⟩
 · simp at h
 rcases l with _ | ⟨v9,l⟩
 · simp at h
 rcases l with _ | ⟨v10,l⟩
 · simp at h
 rcases l with _ | ⟨v11,l⟩
 · simp at h
 rcases l with _ | ⟨v12,l⟩
 · simp at h
 rcases l with _ | ⟨v13,l⟩
 · simp at h
 rcases l with _ | ⟨v14,l⟩
 · simp at h
 rcases l with _ | ⟨v15,l⟩
 · simp at h
 rcases l with _ | ⟨v16,l⟩
 · simp at h
 rcases l with _ | ⟨v17,l⟩
 · simp at h
 rcases l with _ | ⟨v18,l⟩
 · simp at h
 rcases l with _ | ⟨v19,l⟩
 · simp at h
 rcases l with _ | ⟨v20,l⟩
 · simp at h
 rcases l with _ | ⟨v21,l⟩
 · simp at h
 rcases l with _ | ⟨v22,l⟩
 · simp at h
 rcases l with _ | ⟨v23,l⟩
 · simp at h
 rcases l with _ | ⟨v24,l⟩
 · simp at h
 rcases l with _ | ⟨v25,l⟩
 · simp at h
 rcases l with _ | ⟨v26,l⟩
 · simp at h
 rcases l with _ | ⟨v27,l⟩
 · simp at h
 rcases l with _ | ⟨v28,l⟩
 · simp at h
 rcases l with _ | ⟨v29,l⟩
 · simp at h
 rcases l with _ | ⟨v30,l⟩
 · simp at h
 rcases l with _ | ⟨v31,l⟩
 · simp at h
 rcases l with _ | ⟨v32,l⟩
 · simp at h
 rcases l with _ | ⟨v33,l⟩
 · simp at h
 rcases l with _ | ⟨v34,l⟩
 · simp at h
 rcases l with _ | ⟨v35,l⟩
 · simp at h
 rcases l with _ | ⟨x,l⟩
 · exact ⟨v0,v1,v2,v3,v4,v5,v6,v7,v8,v9,v10,v11,v12,v13,v14,v15,v16,v17,v18,v19,v20,v21,v22,v23,v24,v25,v26,v27,v28,v29,v30,v31,v32,v33,v34,v35,rfl⟩
 · simp at h
noncomputable def B17g : Code:=Try.f17.body.getD .skip
noncomputable def GL : Code:=nvl (nvk (nvb (nva (nvb (nvb B17g)))))
noncomputable def GR : Code:=nvb (nvb (nvb B17g))
def HG (T : Array Value) (la : Option Addr) (n lc : Nat) (pa : Option Addr) (pl pc : Nat) (k : Nat) (s : Nat) : Prop:=T.size = 36 ∧ T[0]? = some (.slice la n lc) ∧ T[1]? = some (.slice pa pl pc) ∧ T[5]? = some (.int .i64 (s : Int)) ∧ T[6]? = some (.int .i64 (k : Int))
theorem sum_leb (f : Nat → Nat) (b : Nat) : ∀ n,(∀ i,i < n → f i ≤ b) → sumTo n f ≤ n * b:=by
 intro n
 induction n with
 | zero=>intro _; exact Nat.zero_le _
 | succ n ih =>
   intro h
   have h1:=ih fun i hi=>h i (by omega)
   have h2:=h n (by omega)
   simp only [sumTo]
   rw [Nat.succ_mul]
   omega
section
variable {n lc pl pc : Nat} {la pa : Option Addr} {acts : Nat → List (Int × Int)} {ra : Nat → Option Addr} {rc : Nat → Nat} {V : World} {Z : Cuts} {Post : Value → World → Prop} {b₀ : Frame} {a₀ : Act} {ops₀ : Array Oper} {i₀ : Nat} {rest₀ : List Nat} {k₀ : List Item} {cs0 : List Frame}
theorem great_loop (hn : norm V = V) (hR : Rw V la n acts ra rc) (hln : ∀ i,i < n → (acts i).length ≤ 10000000000000)
   (Kend : ∀ T,HG T la n lc pa pl pc (min n 100) (sumTo (min n 100) fun i=>(acts i).length) → To0 Try.prog Post Z V (G ((base 17).at ⟨T,[]⟩ [.code GR]) (b₀.at a₀ (.inRegion ops₀ (i₀ :: rest₀) :: k₀) :: cs0))) :
   ∀ (j k : Nat) T,j + k = min n 100 → HG T la n lc pa pl pc k (sumTo k fun i=>(acts i).length) → To0 Try.prog Post Z V (G ((base 17).at ⟨T,[]⟩ [.code GL,.inLoop GL,.inBlock 0,.code GR]) (b₀.at a₀ (.inRegion ops₀ (i₀ :: rest₀) :: k₀) :: cs0)):=by
 intro j
 induction j with
 | zero =>
   intro k T hjk ⟨hs,t0,t1,t5,t6⟩
   obtain rfl : k = min n 100:=by omega
   generalize hk : min n 100 = k at *
   generalize sumTo k (fun i=>(acts i).length) = su at *
   clear hln hR
   by_cases hkn : k < n
   · have q1 : decide ((k : Int) < (n : Int)) = true:=decide_eq_true (by omega)
     have q2 : decide ((k : Int) < 100) = false:=decide_eq_false (by omega)
     obtain ⟨v0,v1,v2,v3,v4,v5,v6,v7,v8,v9,v10,v11,v12,v13,v14,v15,v16,v17,v18,v19,v20,v21,v22,v23,v24,v25,v26,v27,v28,v29,v30,v31,v32,v33,v34,v35,rfl⟩:=array36 T hs
     simp only [List.getElem?_toArray,List.getElem?_cons_zero,List.getElem?_cons_succ,Option.some.injEq] at t0 t1 t5 t6
     subst t0 t1 t5 t6
     refine (fun (h : ∀ X0,X0 = GL → To0 Try.prog Post Z V (G ((base 17).at ⟨_,[]⟩ [.code X0,.inLoop GL,.inBlock 0,.code GR]) (b₀.at a₀ (.inRegion ops₀ (i₀ :: rest₀) :: k₀) :: cs0)))=>h GL rfl) ?_
     intro X0 hX0
     simp only [GL,GR,B17g,nva,nvb,nvk,nvl,Try.f17,Option.getD_some] at hX0
     subst hX0
     obtain ⟨K,hK,hV,key,yek⟩:=kKV (L:=Lone) (J:=fun g=>To0 Try.prog Post Z V g) mu_to0 (muv_to0 hn)
     refine key _ ?_
     repeat (first|(with_reducible first|refine mu_seq hK ?_|refine mu_skip hK ?_|(refine mu_region_end hK ?_;try subst hkk)|refine mu_block hK ?_|refine mu_inBlock hK ?_|refine mu_ret hK ?_|refine mu_end hK ?_)|refine mu_exit hK rfl ?_|(with_reducible refine mu_regionH hK (fun kk hkk=>?_); simp only [List.size_toArray,List.length_cons,List.length_nil,Nat.reduceAdd,Nat.zero_add,List.range,List.range.loop])|(with_reducible refine mu_cf hK ?_ ?_;(· first | (walk_nrm; done) | (simp [Act.eval]; done)))|(with_reducible refine mu_ct hK ?_ ?_;(· first | (walk_nrm; done) | (simp [Act.eval]; done)))|(refine mu_unwanted hK rfl rfl ?_; walk_nrm)|(refine muv_val hV rfl (by first | exact .inl rfl | exact .inr rfl) rfl (by kernel_rfl) (fun J hJ=>?_); go_simp; with_reducible refine hJ _ ?_; clear hJ J; walk_nrm))
     refine yek _ ?_
     clear hK hV key yek K
     exact Kend _ ⟨by simp,rfl,rfl,rfl,rfl⟩
   · have q1 : decide ((k : Int) < (n : Int)) = false:=decide_eq_false (by omega)
     obtain ⟨v0,v1,v2,v3,v4,v5,v6,v7,v8,v9,v10,v11,v12,v13,v14,v15,v16,v17,v18,v19,v20,v21,v22,v23,v24,v25,v26,v27,v28,v29,v30,v31,v32,v33,v34,v35,rfl⟩:=array36 T hs
     simp only [List.getElem?_toArray,List.getElem?_cons_zero,List.getElem?_cons_succ,Option.some.injEq] at t0 t1 t5 t6
     subst t0 t1 t5 t6
     refine (fun (h : ∀ X0,X0 = GL → To0 Try.prog Post Z V (G ((base 17).at ⟨_,[]⟩ [.code X0,.inLoop GL,.inBlock 0,.code GR]) (b₀.at a₀ (.inRegion ops₀ (i₀ :: rest₀) :: k₀) :: cs0)))=>h GL rfl) ?_
     intro X0 hX0
     simp only [GL,GR,B17g,nva,nvb,nvk,nvl,Try.f17,Option.getD_some] at hX0
     subst hX0
     obtain ⟨K,hK,hV,key,yek⟩:=kKV (L:=Lone) (J:=fun g=>To0 Try.prog Post Z V g) mu_to0 (muv_to0 hn)
     refine key _ ?_
     repeat (first|(with_reducible first|refine mu_seq hK ?_|refine mu_skip hK ?_|(refine mu_region_end hK ?_;try subst hkk)|refine mu_block hK ?_|refine mu_inBlock hK ?_|refine mu_ret hK ?_|refine mu_end hK ?_)|refine mu_exit hK rfl ?_|(with_reducible refine mu_regionH hK (fun kk hkk=>?_); simp only [List.size_toArray,List.length_cons,List.length_nil,Nat.reduceAdd,Nat.zero_add,List.range,List.range.loop])|(with_reducible refine mu_cf hK ?_ ?_;(· first | (walk_nrm; done) | (simp [Act.eval]; done)))|(with_reducible refine mu_ct hK ?_ ?_;(· first | (walk_nrm; done) | (simp [Act.eval]; done)))|(refine mu_unwanted hK rfl rfl ?_; walk_nrm)|(refine muv_val hV rfl (by first | exact .inl rfl | exact .inr rfl) rfl (by kernel_rfl) (fun J hJ=>?_); go_simp; with_reducible refine hJ _ ?_; clear hJ J; walk_nrm))
     refine yek _ ?_
     clear hK hV key yek K
     exact Kend _ ⟨by simp,rfl,rfl,rfl,rfl⟩
 | succ j ih =>
   intro k T hjk ⟨hs,t0,t1,t5,t6⟩
   have hk : k < n:=by omega
   have hk1 : k < 100:=by omega
   obtain ⟨g,o,hla,hg,hc⟩:=hR.out (by omega)
   have hck:=hc k hk
   have hlk:=hln k hk
   have hsu : sumTo k (fun i=>(acts i).length) ≤ k * 10000000000000:=sum_leb _ _ k fun i hi=>hln i (by omega)
   have hsu2 : k * 10000000000000 ≤ 100 * 10000000000000:=Nat.mul_le_mul_right _ (by omega)
   have ih':=ih (k + 1)
   have hsx : sumTo (k + 1) (fun i=>(acts i).length) = sumTo k (fun i=>(acts i).length) + (acts k).length:=rfl
   rw [hsx] at ih'
   clear hln hR hc ih Kend hsx
   generalize sumTo k (fun i=>(acts i).length) = su at *
   generalize (acts k).length = l at *
   have d1 : ∀ τ,(re V τ 0).cell? ⟨g,o + k,none⟩ = some (.slice (ra k) l (rc k)):=fun τ=>hck
   have q1 : decide ((k : Int) < (n : Int)) = true:=decide_eq_true (by omega)
   have q2 : decide ((k : Int) < 100) = true:=decide_eq_true (by omega)
   have q3 : ¬ ((k : Int) < 0):=by omega
   have q4 : ¬ ((n : Int) ≤ (k : Int)):=by omega
   have w4 : IntKind.i64.wrap ((k : Int) + 1) = ((k + 1 : Nat) : Int):=by rw [IntKind.wrap_i64]; omega
   have w5 : IntKind.i64.wrap ((su : Int) + (l : Int)) = ((su + l : Nat) : Int):=by rw [IntKind.wrap_i64]; omega
   subst hla
   obtain ⟨v0,v1,v2,v3,v4,v5,v6,v7,v8,v9,v10,v11,v12,v13,v14,v15,v16,v17,v18,v19,v20,v21,v22,v23,v24,v25,v26,v27,v28,v29,v30,v31,v32,v33,v34,v35,rfl⟩:=array36 T hs
   simp only [List.getElem?_toArray,List.getElem?_cons_zero,List.getElem?_cons_succ,Option.some.injEq] at t0 t1 t5 t6
   subst t0 t1 t5 t6
   refine (fun (h : ∀ X0,X0 = GL → To0 Try.prog Post Z V (G ((base 17).at ⟨_,[]⟩ [.code X0,.inLoop GL,.inBlock 0,.code GR]) (b₀.at a₀ (.inRegion ops₀ (i₀ :: rest₀) :: k₀) :: cs0)))=>h GL rfl) ?_
   intro X0 hX0
   simp only [GL,GR,B17g,nva,nvb,nvk,nvl,Try.f17,Option.getD_some] at hX0
   subst hX0
   obtain ⟨K,hK,hV,key,yek⟩:=kKV (L:=Lone) (J:=fun g=>To0 Try.prog Post Z V g) mu_to0 (muv_to0 hn)
   refine key _ ?_
   repeat (first|(with_reducible first|refine mu_seq hK ?_|refine mu_skip hK ?_|(refine mu_region_end hK ?_;try subst hkk)|refine mu_block hK ?_|refine mu_inBlock hK ?_|refine mu_ret hK ?_|refine mu_end hK ?_)|refine mu_exit hK rfl ?_|(with_reducible refine mu_regionH hK (fun kk hkk=>?_); simp only [List.size_toArray,List.length_cons,List.length_nil,Nat.reduceAdd,Nat.zero_add,List.range,List.range.loop])|(with_reducible refine mu_cf hK ?_ ?_;(· first | (walk_nrm; done) | (simp [Act.eval]; done)))|(with_reducible refine mu_ct hK ?_ ?_;(· first | (walk_nrm; done) | (simp [Act.eval]; done)))|(refine mu_unwanted hK rfl rfl ?_; walk_nrm)|(refine muv_val hV rfl (by first | exact .inl rfl | exact .inr rfl) rfl (by kernel_rfl) (fun J hJ=>?_); go_simp; with_reducible refine hJ _ ?_; clear hJ J; walk_nrm))
   refine mu_inLoop hK ?_
   refine yek _ ?_
   clear hK hV key yek K
   refine (fun (h : ∀ Y0,GL = Y0 → To0 Try.prog Post Z V (G ((base 17).at _ [.code Y0,.inLoop Y0,.inBlock 0,.code GR]) (b₀.at a₀ (.inRegion ops₀ (i₀ :: rest₀) :: k₀) :: cs0)))=>h _ (by simp only [GL,GR,B17g,nva,nvb,nvk,nvl,Try.f17,Option.getD_some])) ?_
   intro Y0 hY0
   subst hY0
   exact ih' _ (by omega) ⟨by simp,rfl,rfl,rfl,rfl⟩
theorem great_go (hn : norm V = V) (hR : Rw V la n acts ra rc) (hln : ∀ i,i < n → (acts i).length ≤ 10000000000000)
   (K0 : ∀ b,(b = false → n ≤ 12 ∧ sumTo n (fun i=>(acts i).length) ≤ 120 ∧ pl ≤ 200) → To0 Try.prog Post Z V (G (b₀.at (a₀.put ((ops₀[i₀]?).bind (·.dst)) (.bool b)) (.inRegion ops₀ rest₀ :: k₀)) cs0)) :
   To0 Try.prog Post Z V (G (Frame.enter Try.prog 17 #[.slice la n lc,.slice pa pl pc] .normal) (b₀.at a₀ (.inRegion ops₀ (i₀ :: rest₀) :: k₀) :: cs0)):=by
 rw [enter_at (P:=Try.prog) _ Try.func17 rfl]
 simp only [Try.f17]
 walk_nrm
 obtain ⟨K,hK,hV,key,yek⟩:=kKV (L:=Lone) (J:=fun g=>To0 Try.prog Post Z V g) mu_to0 (muv_to0 hn)
 refine key _ ?_
 repeat (first|(with_reducible first|refine mu_seq hK ?_|refine mu_skip hK ?_|(refine mu_region_end hK ?_;try subst hkk)|refine mu_block hK ?_|refine mu_inBlock hK ?_|refine mu_ret hK ?_|refine mu_end hK ?_)|refine mu_exit hK rfl ?_|(with_reducible refine mu_regionH hK (fun kk hkk=>?_); simp only [List.size_toArray,List.length_cons,List.length_nil,Nat.reduceAdd,Nat.zero_add,List.range,List.range.loop])|(with_reducible refine mu_cf hK ?_ ?_;(· first | (walk_nrm; done) | (simp [Act.eval]; done)))|(with_reducible refine mu_ct hK ?_ ?_;(· first | (walk_nrm; done) | (simp [Act.eval]; done)))|(refine mu_unwanted hK rfl rfl ?_; walk_nrm)|(refine muv_val hV rfl (by first | exact .inl rfl | exact .inr rfl) rfl (by kernel_rfl) (fun J hJ=>?_); go_simp; with_reducible refine hJ _ ?_; clear hJ J; walk_nrm))
 refine mu_loop hK ?_
 refine yek _ ?_
 clear hK hV key yek K
 refine (fun (h : ∀ Y0 Y1,GL = Y0 → GR = Y1 → To0 Try.prog Post Z V (G ((base 17).at _ [.code Y0,.inLoop Y0,.inBlock 0,.code Y1]) (b₀.at a₀ (.inRegion ops₀ (i₀ :: rest₀) :: k₀) :: cs0)))=>h _ _ (by simp only [GL,GR,B17g,nva,nvb,nvk,nvl,Try.f17,Option.getD_some]) (by simp only [GL,GR,B17g,nva,nvb,nvk,nvl,Try.f17,Option.getD_some])) ?_
 intro Y0 Y1 hY0 hY1
 subst hY0 hY1
 refine great_loop hn hR hln (fun T hT=>?_) (min n 100) 0 _ (by omega) ⟨by simp,rfl,rfl,rfl,rfl⟩
 obtain ⟨hs,t0,t1,t5,t6⟩:=hT
 by_cases h1 : 12 < n
 · have q1 : decide ((12 : Int) < (n : Int)) = true:=decide_eq_true (by omega)
   clear hR hln
   generalize sumTo (min n 100) (fun i=>(acts i).length) = su at *
   generalize min n 100 = kk at *
   obtain ⟨v0,v1,v2,v3,v4,v5,v6,v7,v8,v9,v10,v11,v12,v13,v14,v15,v16,v17,v18,v19,v20,v21,v22,v23,v24,v25,v26,v27,v28,v29,v30,v31,v32,v33,v34,v35,rfl⟩:=array36 T hs
   simp only [List.getElem?_toArray,List.getElem?_cons_zero,List.getElem?_cons_succ,Option.some.injEq] at t0 t1 t5 t6
   subst t0 t1 t5 t6
   refine (fun (h : ∀ X0,X0 = GR → To0 Try.prog Post Z V (G ((base 17).at ⟨_,[]⟩ [.code X0]) (b₀.at a₀ (.inRegion ops₀ (i₀ :: rest₀) :: k₀) :: cs0)))=>h GR rfl) ?_
   intro X0 hX0
   simp only [GL,GR,B17g,nva,nvb,nvk,nvl,Try.f17,Option.getD_some] at hX0
   subst hX0
   obtain ⟨K,hK,hV,key,yek⟩:=kKV (L:=Lone) (J:=fun g=>To0 Try.prog Post Z V g) mu_to0 (muv_to0 hn)
   refine key _ ?_
   repeat (first|(with_reducible first|refine mu_seq hK ?_|refine mu_skip hK ?_|(refine mu_region_end hK ?_;try subst hkk)|refine mu_block hK ?_|refine mu_inBlock hK ?_|refine mu_ret hK ?_|refine mu_end hK ?_)|refine mu_exit hK rfl ?_|(with_reducible refine mu_regionH hK (fun kk hkk=>?_); simp only [List.size_toArray,List.length_cons,List.length_nil,Nat.reduceAdd,Nat.zero_add,List.range,List.range.loop])|(with_reducible refine mu_cf hK ?_ ?_;(· first | (walk_nrm; done) | (simp [Act.eval]; done)))|(with_reducible refine mu_ct hK ?_ ?_;(· first | (walk_nrm; done) | (simp [Act.eval]; done)))|(refine mu_unwanted hK rfl rfl ?_; walk_nrm)|(refine muv_val hV rfl (by first | exact .inl rfl | exact .inr rfl) rfl (by kernel_rfl) (fun J hJ=>?_); go_simp; with_reducible refine hJ _ ?_; clear hJ J; walk_nrm))
   refine mu_leave1 hK rfl rfl Try.func17 rfl ?_
   walk_nrm
   refine yek _ ?_
   clear hK hV key yek K
   exact K0 _ (fun h=>by cases h)
 have hmn : min n 100 = n:=by omega
 rw [hmn] at t5 t6
 have q1 : decide ((12 : Int) < (n : Int)) = false:=decide_eq_false (by omega)
 by_cases h2 : 120 < sumTo n (fun i=>(acts i).length)
 · have q2 : decide ((120 : Int) < (sumTo n (fun i=>(acts i).length) : Nat)) = true:=decide_eq_true (by omega)
   clear hR hln
   generalize sumTo n (fun i=>(acts i).length) = su at *
   obtain ⟨v0,v1,v2,v3,v4,v5,v6,v7,v8,v9,v10,v11,v12,v13,v14,v15,v16,v17,v18,v19,v20,v21,v22,v23,v24,v25,v26,v27,v28,v29,v30,v31,v32,v33,v34,v35,rfl⟩:=array36 T hs
   simp only [List.getElem?_toArray,List.getElem?_cons_zero,List.getElem?_cons_succ,Option.some.injEq] at t0 t1 t5 t6
   subst t0 t1 t5 t6
   refine (fun (h : ∀ X0,X0 = GR → To0 Try.prog Post Z V (G ((base 17).at ⟨_,[]⟩ [.code X0]) (b₀.at a₀ (.inRegion ops₀ (i₀ :: rest₀) :: k₀) :: cs0)))=>h GR rfl) ?_
   intro X0 hX0
   simp only [GL,GR,B17g,nva,nvb,nvk,nvl,Try.f17,Option.getD_some] at hX0
   subst hX0
   obtain ⟨K,hK,hV,key,yek⟩:=kKV (L:=Lone) (J:=fun g=>To0 Try.prog Post Z V g) mu_to0 (muv_to0 hn)
   refine key _ ?_
   repeat (first|(with_reducible first|refine mu_seq hK ?_|refine mu_skip hK ?_|(refine mu_region_end hK ?_;try subst hkk)|refine mu_block hK ?_|refine mu_inBlock hK ?_|refine mu_ret hK ?_|refine mu_end hK ?_)|refine mu_exit hK rfl ?_|(with_reducible refine mu_regionH hK (fun kk hkk=>?_); simp only [List.size_toArray,List.length_cons,List.length_nil,Nat.reduceAdd,Nat.zero_add,List.range,List.range.loop])|(with_reducible refine mu_cf hK ?_ ?_;(· first | (walk_nrm; done) | (simp [Act.eval]; done)))|(with_reducible refine mu_ct hK ?_ ?_;(· first | (walk_nrm; done) | (simp [Act.eval]; done)))|(refine mu_unwanted hK rfl rfl ?_; walk_nrm)|(refine muv_val hV rfl (by first | exact .inl rfl | exact .inr rfl) rfl (by kernel_rfl) (fun J hJ=>?_); go_simp; with_reducible refine hJ _ ?_; clear hJ J; walk_nrm))
   refine mu_leave1 hK rfl rfl Try.func17 rfl ?_
   walk_nrm
   refine yek _ ?_
   clear hK hV key yek K
   exact K0 _ (fun h=>by cases h)
 have q2 : decide ((120 : Int) < (sumTo n (fun i=>(acts i).length) : Nat)) = false:=decide_eq_false (by omega)
 by_cases h3 : 200 < pl
 · have q3 : decide ((200 : Int) < (pl : Int)) = true:=decide_eq_true (by omega)
   clear hR hln
   generalize sumTo n (fun i=>(acts i).length) = su at *
   obtain ⟨v0,v1,v2,v3,v4,v5,v6,v7,v8,v9,v10,v11,v12,v13,v14,v15,v16,v17,v18,v19,v20,v21,v22,v23,v24,v25,v26,v27,v28,v29,v30,v31,v32,v33,v34,v35,rfl⟩:=array36 T hs
   simp only [List.getElem?_toArray,List.getElem?_cons_zero,List.getElem?_cons_succ,Option.some.injEq] at t0 t1 t5 t6
   subst t0 t1 t5 t6
   refine (fun (h : ∀ X0,X0 = GR → To0 Try.prog Post Z V (G ((base 17).at ⟨_,[]⟩ [.code X0]) (b₀.at a₀ (.inRegion ops₀ (i₀ :: rest₀) :: k₀) :: cs0)))=>h GR rfl) ?_
   intro X0 hX0
   simp only [GL,GR,B17g,nva,nvb,nvk,nvl,Try.f17,Option.getD_some] at hX0
   subst hX0
   obtain ⟨K,hK,hV,key,yek⟩:=kKV (L:=Lone) (J:=fun g=>To0 Try.prog Post Z V g) mu_to0 (muv_to0 hn)
   refine key _ ?_
   repeat (first|(with_reducible first|refine mu_seq hK ?_|refine mu_skip hK ?_|(refine mu_region_end hK ?_;try subst hkk)|refine mu_block hK ?_|refine mu_inBlock hK ?_|refine mu_ret hK ?_|refine mu_end hK ?_)|refine mu_exit hK rfl ?_|(with_reducible refine mu_regionH hK (fun kk hkk=>?_); simp only [List.size_toArray,List.length_cons,List.length_nil,Nat.reduceAdd,Nat.zero_add,List.range,List.range.loop])|(with_reducible refine mu_cf hK ?_ ?_;(· first | (walk_nrm; done) | (simp [Act.eval]; done)))|(with_reducible refine mu_ct hK ?_ ?_;(· first | (walk_nrm; done) | (simp [Act.eval]; done)))|(refine mu_unwanted hK rfl rfl ?_; walk_nrm)|(refine muv_val hV rfl (by first | exact .inl rfl | exact .inr rfl) rfl (by kernel_rfl) (fun J hJ=>?_); go_simp; with_reducible refine hJ _ ?_; clear hJ J; walk_nrm))
   refine mu_leave1 hK rfl rfl Try.func17 rfl ?_
   walk_nrm
   refine yek _ ?_
   clear hK hV key yek K
   exact K0 _ (fun h=>by cases h)
 · have q3 : decide ((200 : Int) < (pl : Int)) = false:=decide_eq_false (by omega)
   clear hR hln
   generalize sumTo n (fun i=>(acts i).length) = su at *
   obtain ⟨v0,v1,v2,v3,v4,v5,v6,v7,v8,v9,v10,v11,v12,v13,v14,v15,v16,v17,v18,v19,v20,v21,v22,v23,v24,v25,v26,v27,v28,v29,v30,v31,v32,v33,v34,v35,rfl⟩:=array36 T hs
   simp only [List.getElem?_toArray,List.getElem?_cons_zero,List.getElem?_cons_succ,Option.some.injEq] at t0 t1 t5 t6
   subst t0 t1 t5 t6
   refine (fun (h : ∀ X0,X0 = GR → To0 Try.prog Post Z V (G ((base 17).at ⟨_,[]⟩ [.code X0]) (b₀.at a₀ (.inRegion ops₀ (i₀ :: rest₀) :: k₀) :: cs0)))=>h GR rfl) ?_
   intro X0 hX0
   simp only [GL,GR,B17g,nva,nvb,nvk,nvl,Try.f17,Option.getD_some] at hX0
   subst hX0
   obtain ⟨K,hK,hV,key,yek⟩:=kKV (L:=Lone) (J:=fun g=>To0 Try.prog Post Z V g) mu_to0 (muv_to0 hn)
   refine key _ ?_
   repeat (first|(with_reducible first|refine mu_seq hK ?_|refine mu_skip hK ?_|(refine mu_region_end hK ?_;try subst hkk)|refine mu_block hK ?_|refine mu_inBlock hK ?_|refine mu_ret hK ?_|refine mu_end hK ?_)|refine mu_exit hK rfl ?_|(with_reducible refine mu_regionH hK (fun kk hkk=>?_); simp only [List.size_toArray,List.length_cons,List.length_nil,Nat.reduceAdd,Nat.zero_add,List.range,List.range.loop])|(with_reducible refine mu_cf hK ?_ ?_;(· first | (walk_nrm; done) | (simp [Act.eval]; done)))|(with_reducible refine mu_ct hK ?_ ?_;(· first | (walk_nrm; done) | (simp [Act.eval]; done)))|(refine mu_unwanted hK rfl rfl ?_; walk_nrm)|(refine muv_val hV rfl (by first | exact .inl rfl | exact .inr rfl) rfl (by kernel_rfl) (fun J hJ=>?_); go_simp; with_reducible refine hJ _ ?_; clear hJ J; walk_nrm))
   refine mu_leave1 hK rfl rfl Try.func17 rfl ?_
   walk_nrm
   refine yek _ ?_
   clear hK hV key yek K
   exact K0 _ (fun h=>⟨by omega,by omega,by omega⟩)
end
end Go.Proofs.Ytibcdikfbhmheaa
