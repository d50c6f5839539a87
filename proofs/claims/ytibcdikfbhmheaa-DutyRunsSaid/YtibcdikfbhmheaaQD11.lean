import Derived.Test.YtibcdikfbhmheaaQD10
import Derived.Test.YtibcdikfbhmheaaQD09
import Derived.Test.YtibcdikfbhmheaaB21
import Derived.Test.YtibcdikfbhmheaaB17
set_option linter.unusedSimpArgs false
set_option linter.unusedVariables false
set_option maxRecDepth 100000
set_option maxHeartbeats 4000000
namespace Go.Proofs.Ytibcdikfbhmheaa
open Go Go.Conc Go.Proofs
open Go.ConcN (sumTo upd sumTo_upd upd_ne upd_same)
set_option linter.unusedVariables false
section
variable {W V : World} {Z : Cuts} {rb wp qb : Nat} {g1 g2 : Nat} {G1 G2 : Option Addr} {v0 v1 v2 v3 v4 : Value} {l : List (Nat × Nat)}
theorem cond_atR {T : Array Value} {j : Nat} {b : Bool} (h : T[j]? = some (.bool b)) : (⟨T,[]⟩ : Act).eval (.tmp j) = .bool b:=by
 show T.getD j undef = _
 simp [Array.getD_eq_getD_getElem?,h]
theorem w_loop (hn : norm V = V) (hl : l.length < 1000000000) (hw : V.heap[wp]? = some (.cells #[.slice G1 l.length g1,.bool false] 37 (0,0))) (hq : V.heap[qb]? = some (.cells #[v0,v1,v2,v3,v4,.slice G2 l.length g2] 34 (0,0))) (N1 : Nt2 V G1 l) (N2 : Nt2 V G2 l)
   (K : ∀ T,HW T rb wp qb → To0 Try.prog (LPost W) Z V (G ((base 3).at ⟨T,[]⟩ [.code XEq]) [])) :
   ∀ (m k : Nat) (T : Array Value),m + k = l.length → HW T rb wp qb → T[12]? = some (.int .i64 (k : Int)) → To0 Try.prog (LPost W) Z V (G ((base 3).at ⟨T,[]⟩ [.code XLq,.inLoop XLq,.inBlock 0,.code XEq]) []):=by
 intro m
 induction m with
 | zero =>
   intro k T hmk hT h12
   refine (fun (h : ∀ Y,Y = XLq → To0 Try.prog (LPost W) Z V (G ((base 3).at ⟨T,[]⟩ [.code Y,.inLoop XLq,.inBlock 0,.code XEq]) []))=>h _ rfl) ?_
   intro Y hY
   rw [XLq_eq] at hY
   subst hY
   refine mu_seq mu_to0 (mu_seq mu_to0 ?_)
   refine w_r9 (m:=l.length) (x:=false) hn (decide_eq_false (by omega)) hw hT h12 fun T1 hT1 g12 g81=>?_
   refine mu_cond mu_to0 false (cond_atR g81) ?_
   refine mu_exit mu_to0 rfl ?_
   exact K T1 hT1
 | succ m ih =>
   intro k T hmk hT h12
   refine (fun (h : ∀ Y,Y = XLq → To0 Try.prog (LPost W) Z V (G ((base 3).at ⟨T,[]⟩ [.code Y,.inLoop XLq,.inBlock 0,.code XEq]) []))=>h _ rfl) ?_
   intro Y hY
   rw [XLq_eq] at hY
   subst hY
   refine mu_seq mu_to0 (mu_seq mu_to0 ?_)
   refine w_r9 (m:=l.length) (x:=true) hn (decide_eq_true (by omega)) hw hT h12 fun T1 hT1 g12 g81=>?_
   refine mu_cond mu_to0 true (cond_atR g81) ?_
   refine mu_skip mu_to0 (mu_seq mu_to0 (mu_block mu_to0 (mu_seq mu_to0 ?_)))
   obtain ⟨ga,e1,_,f1⟩:=N1 (by omega)
   obtain ⟨gb,e2,_,f2⟩:=N2 (by omega)
   obtain ⟨c1,c2⟩:=f1 k (by omega)
   obtain ⟨c3,c4⟩:=f2 k (by omega)
   refine w_r11 (m:=l.length) hn (by omega) hw hq e1 e2 c1 c2 c3 c4 hT1 g12 fun T2 hT2 f12 f96=>?_
   refine mu_cond mu_to0 false (cond_atR f96) ?_
   refine mu_skip mu_to0 (mu_inBlock mu_to0 ?_)
   refine w_r10 hn (by omega) hT2 f12 fun T3 hT3 i12=>?_
   refine mu_inLoop mu_to0 ?_
   exact ih (k + 1) T3 (by omega) hT3 i12
end
section
variable {W V : World} {Z : Cuts} {n lc pl pc rb wp qb : Nat} {la pa : Option Addr} {acts : Nat → List (Int × Int)} {ra : Nat → Option Addr} {rc : Nat → Nat} {ps : List Int} {T : Array Value}
theorem w_end (L : LS W Z V) (hT : HW T rb wp qb) : To0 Try.prog (LPost W) Z V (G ((base 3).at ⟨T,[]⟩ [.code XEq]) []):=by
 have hn:=L.n
 obtain ⟨hs,t8,t9,t10,t11⟩:=hT
 obtain ⟨f,hf,hT⟩:=array98f T hs
 have et8:=hf 8 _ t8
 have et9:=hf 9 _ t9
 have et10:=hf 10 _ t10
 have et11:=hf 11 _ t11
 clear hf hs t8 t9 t10 t11
 subst hT
 simp only [et8,et9,et10,et11]
 clear et8 et9 et10 et11
 refine (fun (h : ∀ X0,X0 = XEq → To0 Try.prog (LPost W) Z V (G ((base 3).at ⟨_,[]⟩ [.code X0]) []))=>h XEq rfl) ?_
 intro X0 hX0
 simp only [W6n,W8n,W9n,W10n,W11n,XLq,XEq,X6w,X7w,B3w,nva,nvb,nvk,nvl,nvc2,Try.f3,Option.getD_some] at hX0
 subst hX0
 obtain ⟨K,hK,hV,key,yek⟩:=kKV (L:=Lone) (J:=fun g=>To0 Try.prog (LPost W) Z V g) mu_to0 (muv_to0 hn)
 refine key _ ?_
 repeat (first|(with_reducible first|refine mu_seq hK ?_|refine mu_skip hK ?_|(refine mu_region_end hK ?_;try subst hkk)|refine mu_block hK ?_|refine mu_inBlock hK ?_|refine mu_ret hK ?_|refine mu_end hK ?_)|refine mu_exit hK rfl ?_|(with_reducible refine mu_regionH hK (fun kk hkk=>?_); simp only [List.size_toArray,List.length_cons,List.length_nil,Nat.reduceAdd,Nat.zero_add,List.range,List.range.loop])|(with_reducible refine mu_cf hK ?_ ?_;(· first | (walk_nrm; done) | (simp [Act.eval]; done)))|(with_reducible refine mu_ct hK ?_ ?_;(· first | (walk_nrm; done) | (simp [Act.eval]; done)))|(refine mu_unwanted hK rfl rfl ?_; walk_nrm)|(refine muv_val hV rfl (by first | exact .inl rfl | exact .inr rfl) rfl (by kernel_rfl) (fun J hJ=>?_); go_simp; with_reducible refine hJ _ ?_; clear hJ J; walk_nrm))
 refine mu_call hK rfl rfl (by decide) rfl Try.func18 (by kernel_rfl) rfl ?_
 rw [← enter_at (P:=Try.prog) _ Try.func18 rfl]
 walk_nrm
 refine yek _ ?_
 clear hK hV key yek K
 refine live_go L.n L.z fun Zq Vq hnq hzq hoq kq=>?_
 have Lq:=L.next hnq hzq hoq kq
 walk_nrm
 obtain ⟨K,hK,hV,key,yek⟩:=kKV (L:=Lone) (J:=fun g=>To0 Try.prog (LPost W) Zq Vq g) mu_to0 (muv_to0 Lq.n)
 refine key _ ?_
 repeat (first|(with_reducible first|refine mu_seq hK ?_|refine mu_skip hK ?_|(refine mu_region_end hK ?_;try subst hkk)|refine mu_block hK ?_|refine mu_inBlock hK ?_|refine mu_ret hK ?_|refine mu_end hK ?_)|refine mu_exit hK rfl ?_|(with_reducible refine mu_regionH hK (fun kk hkk=>?_); simp only [List.size_toArray,List.length_cons,List.length_nil,Nat.reduceAdd,Nat.zero_add,List.range,List.range.loop])|(with_reducible refine mu_cf hK ?_ ?_;(· first | (walk_nrm; done) | (simp [Act.eval]; done)))|(with_reducible refine mu_ct hK ?_ ?_;(· first | (walk_nrm; done) | (simp [Act.eval]; done)))|(refine mu_unwanted hK rfl rfl ?_; walk_nrm)|(refine muv_val hV rfl (by first | exact .inl rfl | exact .inr rfl) rfl (by kernel_rfl) (fun J hJ=>?_); go_simp; with_reducible refine hJ _ ?_; clear hJ J; walk_nrm))
 refine yek _ ?_
 clear hK hV key yek K
 exact law_last (by kernel_rfl) rfl rfl Try.func3 rfl rfl Lq.o Lq.k
theorem duty_runs (L : LS W Z V) (hR : Rw V la n acts ra rc) (hln : ∀ i,i < n → (acts i).length ≤ 10000000000000) (hps : ps.length = pl) (hp : Pks V (fun _=>False) (.slice pa pl pc) ps) {cu : Nat} (hcu : cu < 256) :
   To0 Try.prog (LPost W) Z V (G (Frame.enter Try.prog 3 #[.slice la n lc,.slice pa pl pc,.int .u8 (cu : Int)] .normal) []):=by
 have hn:=L.n
 rw [enter_at (P:=Try.prog) _ Try.func3 rfl]
 simp only [Try.f3]
 walk_nrm
 obtain ⟨K,hK,hV,key,yek⟩:=kKV (L:=Lone) (J:=fun g=>To0 Try.prog (LPost W) Z V g) mu_to0 (muv_to0 hn)
 refine key _ ?_
 repeat (first|(with_reducible first|refine mu_seq hK ?_|refine mu_skip hK ?_|(refine mu_region_end hK ?_;try subst hkk)|refine mu_block hK ?_|refine mu_inBlock hK ?_|refine mu_ret hK ?_|refine mu_end hK ?_)|refine mu_exit hK rfl ?_|(with_reducible refine mu_regionH hK (fun kk hkk=>?_); simp only [List.size_toArray,List.length_cons,List.length_nil,Nat.reduceAdd,Nat.zero_add,List.range,List.range.loop])|(with_reducible refine mu_cf hK ?_ ?_;(· first | (walk_nrm; done) | (simp [Act.eval]; done)))|(with_reducible refine mu_ct hK ?_ ?_;(· first | (walk_nrm; done) | (simp [Act.eval]; done)))|(refine mu_unwanted hK rfl rfl ?_; walk_nrm)|(refine muv_val hV rfl (by first | exact .inl rfl | exact .inr rfl) rfl (by kernel_rfl) (fun J hJ=>?_); go_simp; with_reducible refine hJ _ ?_; clear hJ J; walk_nrm))
 refine mu_call hK rfl rfl (by decide) rfl Try.func17 (by kernel_rfl) rfl ?_
 rw [← enter_at (P:=Try.prog) _ Try.func17 rfl]
 walk_nrm
 refine yek _ ?_
 clear hK hV key yek K
 refine great_go hn hR hln (fun b hb=>?_)
 walk_nrm
 cases b with
 | true =>
   clear hb hR hln hp
   obtain ⟨K,hK,hV,key,yek⟩:=kKV (L:=Lone) (J:=fun g=>To0 Try.prog (LPost W) Z V g) mu_to0 (muv_to0 hn)
   refine key _ ?_
   repeat (first|(with_reducible first|refine mu_seq hK ?_|refine mu_skip hK ?_|(refine mu_region_end hK ?_;try subst hkk)|refine mu_block hK ?_|refine mu_inBlock hK ?_|refine mu_ret hK ?_|refine mu_end hK ?_)|refine mu_exit hK rfl ?_|(with_reducible refine mu_regionH hK (fun kk hkk=>?_); simp only [List.size_toArray,List.length_cons,List.length_nil,Nat.reduceAdd,Nat.zero_add,List.range,List.range.loop])|(with_reducible refine mu_cf hK ?_ ?_;(· first | (walk_nrm; done) | (simp [Act.eval]; done)))|(with_reducible refine mu_ct hK ?_ ?_;(· first | (walk_nrm; done) | (simp [Act.eval]; done)))|(refine mu_unwanted hK rfl rfl ?_; walk_nrm)|(refine muv_val hV rfl (by first | exact .inl rfl | exact .inr rfl) rfl (by kernel_rfl) (fun J hJ=>?_); go_simp; with_reducible refine hJ _ ?_; clear hJ J; walk_nrm))
   refine mu_call hK rfl rfl (by decide) rfl Try.func18 (by kernel_rfl) rfl ?_
   rw [← enter_at (P:=Try.prog) _ Try.func18 rfl]
   walk_nrm
   refine yek _ ?_
   clear hK hV key yek K
   refine live_go L.n L.z fun Zq Vq hnq hzq hoq kq=>?_
   have Lq:=L.next hnq hzq hoq kq
   walk_nrm
   obtain ⟨K,hK,hV,key,yek⟩:=kKV (L:=Lone) (J:=fun g=>To0 Try.prog (LPost W) Zq Vq g) mu_to0 (muv_to0 Lq.n)
   refine key _ ?_
   repeat (first|(with_reducible first|refine mu_seq hK ?_|refine mu_skip hK ?_|(refine mu_region_end hK ?_;try subst hkk)|refine mu_block hK ?_|refine mu_inBlock hK ?_|refine mu_ret hK ?_|refine mu_end hK ?_)|refine mu_exit hK rfl ?_|(with_reducible refine mu_regionH hK (fun kk hkk=>?_); simp only [List.size_toArray,List.length_cons,List.length_nil,Nat.reduceAdd,Nat.zero_add,List.range,List.range.loop])|(with_reducible refine mu_cf hK ?_ ?_;(· first | (walk_nrm; done) | (simp [Act.eval]; done)))|(with_reducible refine mu_ct hK ?_ ?_;(· first | (walk_nrm; done) | (simp [Act.eval]; done)))|(refine mu_unwanted hK rfl rfl ?_; walk_nrm)|(refine muv_val hV rfl (by first | exact .inl rfl | exact .inr rfl) rfl (by kernel_rfl) (fun J hJ=>?_); go_simp; with_reducible refine hJ _ ?_; clear hJ J; walk_nrm))
   refine yek _ ?_
   clear hK hV key yek K
   exact law_last (by kernel_rfl) rfl rfl Try.func3 rfl rfl Lq.o Lq.k
 | false =>
 obtain ⟨hn12,hsum,hpl⟩:=hb rfl
 clear hb
 obtain ⟨rn,hrn⟩ : ∃ rn,cu % 30 = rn:=⟨_,rfl⟩
 have hrl : rn < 30:=by omega
 have u0 : IntKind.i64.wrap (cu : Int) = (cu : Int):=by rw [IntKind.wrap_i64]; omega
 have u1 : ((cu : Int)).tmod 30 = (rn : Int):=by rw [← hrn]; exact (Int.ofNat_tmod cu 30).symm
 have u2 : IntKind.i64.wrap (rn : Int) = (rn : Int):=by rw [IntKind.wrap_i64]; omega
 have hs9 : sumTo n (fun i=>(acts i).length) < 1000000000:=by omega
 have hs8 : sumTo n (fun i=>(acts i).length) < 900000000:=by omega
 have hl9 : ∀ i,i < n → (acts i).length < 1000000000:=fun i hi=>by
   have h1 : (acts i).length ≤ sumTo n (fun i=>(acts i).length):=sum_oneR n (fun i=>(acts i).length) i hi
   omega
 clear hln hrn
 obtain ⟨K,hK,hV,key,yek⟩:=kKV (L:=Lone) (J:=fun g=>To0 Try.prog (LPost W) Z V g) mu_to0 (muv_to0 hn)
 refine key _ ?_
 repeat (first|(with_reducible first|refine mu_seq hK ?_|refine mu_skip hK ?_|(refine mu_region_end hK ?_;try subst hkk)|refine mu_block hK ?_|refine mu_inBlock hK ?_|refine mu_ret hK ?_|refine mu_end hK ?_)|refine mu_exit hK rfl ?_|(with_reducible refine mu_regionH hK (fun kk hkk=>?_); simp only [List.size_toArray,List.length_cons,List.length_nil,Nat.reduceAdd,Nat.zero_add,List.range,List.range.loop])|(with_reducible refine mu_cf hK ?_ ?_;(· first | (walk_nrm; done) | (simp [Act.eval]; done)))|(with_reducible refine mu_ct hK ?_ ?_;(· first | (walk_nrm; done) | (simp [Act.eval]; done)))|(refine mu_unwanted hK rfl rfl ?_; walk_nrm)|(refine muv_val hV rfl (by first | exact .inl rfl | exact .inr rfl) rfl (by kernel_rfl) (fun J hJ=>?_); go_simp; with_reducible refine hJ _ ?_; clear hJ J; walk_nrm))
 refine mu_call hK rfl rfl (by decide) rfl Try.func19 (by kernel_rfl) rfl ?_
 rw [← enter_at (P:=Try.prog) _ Try.func19 rfl]
 walk_nrm
 refine yek _ ?_
 clear hK hV key yek K
 refine play_go (ps:=ps) (Rn:=rn) hn L.z (by omega) hR hs9 hl9 hp (by omega) (by rw [if_neg (show ¬ ((rn : Int) < 0) by omega),if_neg (by omega)]) fun s1 xs1 Z1 V1 ov ovr pkr lv wp hrun1 A=>?_
 have L1:=L.next A.nrm A.z A.zo A.kp
 have hn1:=A.nrm
 have hR1:=hR.kp A.kp
 have hp1 : Pks V1 (fun _=>False) (.slice pa pl pc) ps:=by
   obtain ⟨b,c,e,h1⟩:=hp.v
   refine ⟨⟨b,c,e,fun h0=>?_⟩,hp.r⟩
   obtain ⟨g,o,e1,h2,h3,h4⟩:=h1 h0
   exact ⟨g,o,e1,Nat.lt_of_lt_of_le h2 A.kp.size,h3,fun j hj=>A.kp.cell (h4 j hj)⟩
 have o1:=A.o1
 have o2:=A.o2
 have o3:=A.o3
 obtain ⟨A1,c1,rfl,R1⟩:=rds_own o1
 obtain ⟨B1,d1,rfl,S1⟩:=rds_own o2
 obtain ⟨C1,y1,rfl,P1⟩:=rds_own o3
 obtain ⟨G1,g1,rfl,nl1,N1⟩:=rd_notes A.lg
 have N1 : Nt2 V1 G1 s1.log:=N1
 have R1:=R1 (fun j=>.int .i64 ((xs1.getD j 0 : Nat) : Int)) (fun j hj=>by simp [ints,List.getElem?_map,List.getD_eq_getElem?_getD,List.getElem?_eq_getElem hj])
 have S1:=S1 (fun j=>.bool (fov s1.st j)) (fun j hj=>by rw [show fov s1.st j = (cl (s1.st j) == 3) from by unfold fov; by_cases h : cl (s1.st j) = 3 <;> simp [h]]; simp [tbl,List.getElem?_map,List.getElem?_range,hj])
 have P1:=P1 (fun j=>.bool (fpk s1.st j)) (fun j hj=>by rw [show fpk s1.st j = (cl (s1.st j) == 2) from by unfold fpk; by_cases h : cl (s1.st j) = 2 <;> simp [h]]; simp [tbl,List.getElem?_map,List.getElem?_range,hj])
 have hw1:=A.w
 clear A u0 u1 u2 hp hR o1 o2 o3
 walk_nrm
 obtain ⟨K,hK,hV,key,yek⟩:=kKV (L:=Lone) (J:=fun g=>To0 Try.prog (LPost W) Z1 V1 g) mu_to0 (muv_to0 hn1)
 refine key _ ?_
 repeat (first|(with_reducible first|refine mu_seq hK ?_|refine mu_skip hK ?_|(refine mu_region_end hK ?_;try subst hkk)|refine mu_block hK ?_|refine mu_inBlock hK ?_|refine mu_ret hK ?_|refine mu_end hK ?_)|refine mu_exit hK rfl ?_|(with_reducible refine mu_regionH hK (fun kk hkk=>?_); simp only [List.size_toArray,List.length_cons,List.length_nil,Nat.reduceAdd,Nat.zero_add,List.range,List.range.loop])|(with_reducible refine mu_cf hK ?_ ?_;(· first | (walk_nrm; done) | (simp [Act.eval]; done)))|(with_reducible refine mu_ct hK ?_ ?_;(· first | (walk_nrm; done) | (simp [Act.eval]; done)))|(refine mu_unwanted hK rfl rfl ?_; walk_nrm)|(refine muv_val hV rfl (by first | exact .inl rfl | exact .inr rfl) rfl (by kernel_rfl) (fun J hJ=>?_); go_simp; with_reducible refine hJ _ ?_; clear hJ J; walk_nrm))
 refine yek _ ?_
 clear hK hV key yek K
 have hnV2 : norm (V1.alloc (.cells #[.slice none 0 0,.slice none 0 0,.slice none 0 0] 28)) = (V1.alloc (.cells #[.slice none 0 0,.slice none 0 0,.slice none 0 0] 28)):=norm_al hn1 _
 refine mua_put (L:=Lone) (v:=.pointer (some ⟨V1.heap.size,0,none⟩)) (mua_to0 hnV2) (K:=fun g=>To0 Try.prog (LPost W) Z1 V1 g) (K':=fun g=>To0 Try.prog (LPost W) Z1 (V1.alloc (.cells #[.slice none 0 0,.slice none 0 0,.slice none 0 0] 28)) g) rfl (.inl rfl) rfl (by kernel_rfl) (fun τ=>?_) ?_
 · go_simp
   first | exact ⟨by first | rfl | assumption | (simp only [re]; omega),rfl⟩ | rfl | (simp; done)
 have sV2 : (V1.alloc (.cells #[.slice none 0 0,.slice none 0 0,.slice none 0 0] 28)).heap.size = V1.heap.size + 1:=al_size _ _
 have kV2 : Kp V1 (V1.alloc (.cells #[.slice none 0 0,.slice none 0 0,.slice none 0 0] 28)):=kp_alloc _ _
 have rV2 : (V1.alloc (.cells #[.slice none 0 0,.slice none 0 0,.slice none 0 0] 28)).heap[V1.heap.size]? = some (.cells #[.slice none 0 0,.slice none 0 0,.slice none 0 0] 28):=by rw [al_get,if_pos rfl]
 generalize (V1.alloc (.cells #[.slice none 0 0,.slice none 0 0,.slice none 0 0] 28)) = V2 at *
 walk_nrm
 have f0 : ∀ τ,(re V2 τ 0).cell? ⟨V1.heap.size,0,none⟩ = some (.slice none 0 0):=fun τ=>cell_of rV2 (by simp)
 have z0 : ∀ τ,(re V2 τ 0).frozen? ⟨V1.heap.size,0,none⟩ = false:=fun τ=>by simp [World.frozen?,re,rV2]
 have f1 : ∀ τ,(re V2 τ 0).cell? ⟨V1.heap.size,1,none⟩ = some (.slice none 0 0):=fun τ=>cell_of rV2 (by simp)
 have z1 : ∀ τ,(re V2 τ 0).frozen? ⟨V1.heap.size,1,none⟩ = false:=fun τ=>by simp [World.frozen?,re,rV2]
 have f2 : ∀ τ,(re V2 τ 0).cell? ⟨V1.heap.size,2,none⟩ = some (.slice none 0 0):=fun τ=>cell_of rV2 (by simp)
 have z2 : ∀ τ,(re V2 τ 0).frozen? ⟨V1.heap.size,2,none⟩ = false:=fun τ=>by simp [World.frozen?,re,rV2]
 have hnV3 : norm (set3 V2 V1.heap.size (.slice A1 xs1.length c1) (.slice B1 n d1) (.slice C1 n y1)) = (set3 V2 V1.heap.size (.slice A1 xs1.length c1) (.slice B1 n d1) (.slice C1 n y1)):=norm_set (norm_set (norm_set hnV2 _ _) _ _) _ _
 have kV3 : Kp V1 (set3 V2 V1.heap.size (.slice A1 xs1.length c1) (.slice B1 n d1) (.slice C1 n y1)):=kp_set3 kV2 (Nat.le_refl _)
 have rV3 : (set3 V2 V1.heap.size (.slice A1 xs1.length c1) (.slice B1 n d1) (.slice C1 n y1)).heap[V1.heap.size]? = some (.cells #[(.slice A1 xs1.length c1),(.slice B1 n d1),(.slice C1 n y1)] 28 (0,0)):=by
   unfold set3
   rw [setCell_heap,if_pos rfl,setCell_heap,if_pos rfl,setCell_heap,if_pos rfl,rV2]
   simp
 refine mus_put (L:=Lone) (mus_to0 hnV3) (K:=fun g=>To0 Try.prog (LPost W) Z1 V2 g) (K':=fun g=>To0 Try.prog (LPost W) Z1 (set3 V2 V1.heap.size (.slice A1 xs1.length c1) (.slice B1 n d1) (.slice C1 n y1)) g) rfl (.inl rfl) rfl (by kernel_rfl) (fun τ=>?_) ?_
 · go_simp
   rfl
 clear f0 f1 f2 z0 z1 z2
 generalize (set3 V2 V1.heap.size (.slice A1 xs1.length c1) (.slice B1 n d1) (.slice C1 n y1)) = V3 at *
 walk_nrm
 have L3:=L1.same hnV3 kV3
 have hR3:=hR1.kp kV3
 have hp3 : Pks V3 (fun _=>False) (.slice pa pl pc) ps:=by
   obtain ⟨b,c,e,h1⟩:=hp1.v
   refine ⟨⟨b,c,e,fun h0=>?_⟩,hp1.r⟩
   obtain ⟨g,o,e1,h2,h3,h4⟩:=h1 h0
   exact ⟨g,o,e1,Nat.lt_of_lt_of_le h2 kV3.size,h3,fun j hj=>kV3.cell (h4 j hj)⟩
 have hw1:=(kV3.keep _ (Array.getElem?_eq_some_iff.1 hw1).1).trans hw1
 have S1:=kV3.rds S1
 have R1:=kV3.rds R1
 have P1:=kV3.rds P1
 have N1:=N1.kp kV3
 obtain ⟨rb,erb⟩ : ∃ rb,rb = V1.heap.size:=⟨_,rfl⟩
 rw [← erb] at rV3 ⊢
 clear erb hR1 hp1 kV2 rV2 sV2
 obtain ⟨K,hK,hV,key,yek⟩:=kKV (L:=Lone) (J:=fun g=>To0 Try.prog (LPost W) Z1 V3 g) mu_to0 (muv_to0 hnV3)
 refine key _ ?_
 repeat (first|(with_reducible first|refine mu_seq hK ?_|refine mu_skip hK ?_|(refine mu_region_end hK ?_;try subst hkk)|refine mu_block hK ?_|refine mu_inBlock hK ?_|refine mu_ret hK ?_|refine mu_end hK ?_)|refine mu_exit hK rfl ?_|(with_reducible refine mu_regionH hK (fun kk hkk=>?_); simp only [List.size_toArray,List.length_cons,List.length_nil,Nat.reduceAdd,Nat.zero_add,List.range,List.range.loop])|(with_reducible refine mu_cf hK ?_ ?_;(· first | (walk_nrm; done) | (simp [Act.eval]; done)))|(with_reducible refine mu_ct hK ?_ ?_;(· first | (walk_nrm; done) | (simp [Act.eval]; done)))|(refine mu_unwanted hK rfl rfl ?_; walk_nrm)|(refine muv_val hV rfl (by first | exact .inl rfl | exact .inr rfl) rfl (by kernel_rfl) (fun J hJ=>?_); go_simp; with_reducible refine hJ _ ?_; clear hJ J; walk_nrm))
 refine mu_call hK rfl rfl (by decide) rfl Try.func20 (by kernel_rfl) rfl ?_
 rw [← enter_at (P:=Try.prog) _ Try.func20 rfl]
 walk_nrm
 refine yek _ ?_
 clear hK hV key yek K
 refine run20_go (V:=V3) hR3 (by omega) hs8 hp3 hps (by omega) (by omega) fun V4 v' RS4=>?_
 have hn4:=RS4.nrm
 have k4:=RS4.kp
 rw [← hrun1] at RS4
 obtain ⟨av,ov,pv,odv,lgv,rfl,r1,r2,r3,r4,r5⟩:=RS4.out
 simp only at r1 r2 r3 r4 r5
 have hlog : s1.log.length < 1000000000:=by
   have h1:=RS4.cnt
   have h2 : sumTo n s1.at_ ≤ sumTo n fun j=>(acts j).length:=sum_le_of RS4.le
   simp only at h1
   omega
 obtain ⟨a5,b5,rfl,-⟩:=rds_own r1
 obtain ⟨B2,d2,rfl,S2⟩:=rds_own r2
 obtain ⟨C2,y2,rfl,P2⟩:=rds_own r3
 obtain ⟨A2,c2,rfl,R2⟩:=rds_own r4
 obtain ⟨G2,g2,rfl,nl2,N2⟩:=rd_notes r5
 have N2 : Nt2 V4 G2 s1.log:=N2
 have R2:=R2 (fun j=>.int .i64 ((xs1.getD j 0 : Nat) : Int)) (fun j hj=>by simp [ints,List.getElem?_map,List.getD_eq_getElem?_getD,List.getElem?_eq_getElem hj])
 have S2:=S2 (fun j=>.bool (fov s1.st j)) (fun j hj=>rowB_at hj)
 have P2:=P2 (fun j=>.bool (fpk s1.st j)) (fun j hj=>rowB_at hj)
 clear RS4 r1 r2 r3 r4 r5 hR3 hp3
 have L4:=L3.same hn4 k4
 have hw1:=(k4.keep _ (Array.getElem?_eq_some_iff.1 hw1).1).trans hw1
 have rV4:=(k4.keep _ (Array.getElem?_eq_some_iff.1 rV3).1).trans rV3
 have S1:=k4.rds S1
 have R1:=k4.rds R1
 have P1:=k4.rds P1
 have N1:=N1.kp k4
 walk_nrm
 have hnV5 : norm (V4.alloc (.cells #[.slice none 0 0,.slice none 0 0,.slice none 0 0,.slice none 0 0,.slice none 0 0,.slice none 0 0] 34)) = (V4.alloc (.cells #[.slice none 0 0,.slice none 0 0,.slice none 0 0,.slice none 0 0,.slice none 0 0,.slice none 0 0] 34)):=norm_al hn4 _
 refine mua_put (L:=Lone) (v:=.pointer (some ⟨V4.heap.size,0,none⟩)) (mua_to0 hnV5) (K:=fun g=>To0 Try.prog (LPost W) Z1 V4 g) (K':=fun g=>To0 Try.prog (LPost W) Z1 (V4.alloc (.cells #[.slice none 0 0,.slice none 0 0,.slice none 0 0,.slice none 0 0,.slice none 0 0,.slice none 0 0] 34)) g) rfl (.inl rfl) rfl (by kernel_rfl) (fun τ=>?_) ?_
 · go_simp
   first | done | exact ⟨by first | rfl | assumption | (simp only [re]; omega),rfl⟩ | rfl | (simp; done)
 have kV5 : Kp V4 (V4.alloc (.cells #[.slice none 0 0,.slice none 0 0,.slice none 0 0,.slice none 0 0,.slice none 0 0,.slice none 0 0] 34)):=kp_alloc _ _
 have rV5 : (V4.alloc (.cells #[.slice none 0 0,.slice none 0 0,.slice none 0 0,.slice none 0 0,.slice none 0 0,.slice none 0 0] 34)).heap[V4.heap.size]? = some (.cells #[.slice none 0 0,.slice none 0 0,.slice none 0 0,.slice none 0 0,.slice none 0 0,.slice none 0 0] 34):=by rw [al_get,if_pos rfl]
 generalize (V4.alloc (.cells #[.slice none 0 0,.slice none 0 0,.slice none 0 0,.slice none 0 0,.slice none 0 0,.slice none 0 0] 34)) = V5 at *
 walk_nrm
 have f0 : ∀ τ,(re V5 τ 0).cell? ⟨V4.heap.size,0,none⟩ = some (.slice none 0 0):=fun τ=>cell_of rV5 (by simp)
 have z0 : ∀ τ,(re V5 τ 0).frozen? ⟨V4.heap.size,0,none⟩ = false:=fun τ=>by simp [World.frozen?,re,rV5]
 have f1 : ∀ τ,(re V5 τ 0).cell? ⟨V4.heap.size,1,none⟩ = some (.slice none 0 0):=fun τ=>cell_of rV5 (by simp)
 have z1 : ∀ τ,(re V5 τ 0).frozen? ⟨V4.heap.size,1,none⟩ = false:=fun τ=>by simp [World.frozen?,re,rV5]
 have f2 : ∀ τ,(re V5 τ 0).cell? ⟨V4.heap.size,2,none⟩ = some (.slice none 0 0):=fun τ=>cell_of rV5 (by simp)
 have z2 : ∀ τ,(re V5 τ 0).frozen? ⟨V4.heap.size,2,none⟩ = false:=fun τ=>by simp [World.frozen?,re,rV5]
 have f3 : ∀ τ,(re V5 τ 0).cell? ⟨V4.heap.size,3,none⟩ = some (.slice none 0 0):=fun τ=>cell_of rV5 (by simp)
 have z3 : ∀ τ,(re V5 τ 0).frozen? ⟨V4.heap.size,3,none⟩ = false:=fun τ=>by simp [World.frozen?,re,rV5]
 have f4 : ∀ τ,(re V5 τ 0).cell? ⟨V4.heap.size,4,none⟩ = some (.slice none 0 0):=fun τ=>cell_of rV5 (by simp)
 have z4 : ∀ τ,(re V5 τ 0).frozen? ⟨V4.heap.size,4,none⟩ = false:=fun τ=>by simp [World.frozen?,re,rV5]
 have f5 : ∀ τ,(re V5 τ 0).cell? ⟨V4.heap.size,5,none⟩ = some (.slice none 0 0):=fun τ=>cell_of rV5 (by simp)
 have z5 : ∀ τ,(re V5 τ 0).frozen? ⟨V4.heap.size,5,none⟩ = false:=fun τ=>by simp [World.frozen?,re,rV5]
 have hnV6 : norm ((((((V5.setCell ⟨V4.heap.size,0,none⟩ (.slice la n lc)).setCell ⟨V4.heap.size,1,none⟩ (.slice a5 n b5)).setCell ⟨V4.heap.size,2,none⟩ (.slice B2 n d2)).setCell ⟨V4.heap.size,3,none⟩ (.slice C2 n y2)).setCell ⟨V4.heap.size,4,none⟩ (.slice A2 xs1.length c2)).setCell ⟨V4.heap.size,5,none⟩ (.slice G2 s1.log.length g2)) = ((((((V5.setCell ⟨V4.heap.size,0,none⟩ (.slice la n lc)).setCell ⟨V4.heap.size,1,none⟩ (.slice a5 n b5)).setCell ⟨V4.heap.size,2,none⟩ (.slice B2 n d2)).setCell ⟨V4.heap.size,3,none⟩ (.slice C2 n y2)).setCell ⟨V4.heap.size,4,none⟩ (.slice A2 xs1.length c2)).setCell ⟨V4.heap.size,5,none⟩ (.slice G2 s1.log.length g2)):=norm_set (norm_set (norm_set (norm_set (norm_set (norm_set hnV5 _ _) _ _) _ _) _ _) _ _) _ _
 refine mus_put (L:=Lone) (mus_to0 hnV6) (K:=fun g=>To0 Try.prog (LPost W) Z1 V5 g) (K':=fun g=>To0 Try.prog (LPost W) Z1 ((((((V5.setCell ⟨V4.heap.size,0,none⟩ (.slice la n lc)).setCell ⟨V4.heap.size,1,none⟩ (.slice a5 n b5)).setCell ⟨V4.heap.size,2,none⟩ (.slice B2 n d2)).setCell ⟨V4.heap.size,3,none⟩ (.slice C2 n y2)).setCell ⟨V4.heap.size,4,none⟩ (.slice A2 xs1.length c2)).setCell ⟨V4.heap.size,5,none⟩ (.slice G2 s1.log.length g2)) g) rfl (.inl rfl) rfl (by kernel_rfl) (fun τ=>?_) ?_
 · go_simp
   try rfl
 clear f0 z0 f1 z1 f2 z2 f3 z3 f4 z4 f5 z5
 have rV6:=six_cells (v0:=(.slice la n lc)) (v1:=(.slice a5 n b5)) (v2:=(.slice B2 n d2)) (v3:=(.slice C2 n y2)) (v4:=(.slice A2 xs1.length c2)) (v5:=(.slice G2 s1.log.length g2)) rV5
 have kV6 : Kp V4 ((((((V5.setCell ⟨V4.heap.size,0,none⟩ (.slice la n lc)).setCell ⟨V4.heap.size,1,none⟩ (.slice a5 n b5)).setCell ⟨V4.heap.size,2,none⟩ (.slice B2 n d2)).setCell ⟨V4.heap.size,3,none⟩ (.slice C2 n y2)).setCell ⟨V4.heap.size,4,none⟩ (.slice A2 xs1.length c2)).setCell ⟨V4.heap.size,5,none⟩ (.slice G2 s1.log.length g2)):=Kp.mk (by rw [six_size]; exact kV5.size) (fun b hb=>by rw [six_off (by omega)]; exact kV5.keep b hb)
 generalize ((((((V5.setCell ⟨V4.heap.size,0,none⟩ (.slice la n lc)).setCell ⟨V4.heap.size,1,none⟩ (.slice a5 n b5)).setCell ⟨V4.heap.size,2,none⟩ (.slice B2 n d2)).setCell ⟨V4.heap.size,3,none⟩ (.slice C2 n y2)).setCell ⟨V4.heap.size,4,none⟩ (.slice A2 xs1.length c2)).setCell ⟨V4.heap.size,5,none⟩ (.slice G2 s1.log.length g2)) = V6 at *
 walk_nrm
 have L6:=L4.same hnV6 kV6
 have hw1:=(kV6.keep _ (Array.getElem?_eq_some_iff.1 hw1).1).trans hw1
 have rV7:=(kV6.keep _ (Array.getElem?_eq_some_iff.1 rV4).1).trans rV4
 have S1:=kV6.rds S1
 have R1:=kV6.rds R1
 have P1:=kV6.rds P1
 have N1:=N1.kp kV6
 have S2:=kV6.rds S2
 have R2:=kV6.rds R2
 have P2:=kV6.rds P2
 have N2:=N2.kp kV6
 obtain ⟨qb,eqb⟩ : ∃ qb,qb = V4.heap.size:=⟨_,rfl⟩
 rw [← eqb] at rV6 ⊢
 clear eqb kV5 rV5 rV4 rV3
 have FIN : ∀ T,HW T rb wp qb → To0 Try.prog (LPost W) Z1 V6 (G ((base 3).at ⟨T,[]⟩ [.code X6w]) []):=by
   intro T hT
   rw [X6w_eq]
   refine mu_seq mu_to0 (mu_seq mu_to0 ?_)
   refine w_r6 (fx:=fun j=>((xs1.getD j 0 : Nat) : Int)) (fo:=fov s1.st) (fp:=fpk s1.st) rV7 hw1 rV6 R1 R2 S1 S2 P1 P2 hT fun T1 V7 hT1 g74 hn7 k7=>?_
   have L7:=L6.same hn7 k7
   have hw7:=(k7.keep _ (Array.getElem?_eq_some_iff.1 hw1).1).trans hw1
   have rq7:=(k7.keep _ (Array.getElem?_eq_some_iff.1 rV6).1).trans rV6
   refine mu_cond mu_to0 false (cond_atR g74) ?_
   refine mu_skip mu_to0 (mu_seq mu_to0 (mu_seq mu_to0 ?_))
   refine w_r8 hn7 hT1 fun T2 hT2 g12=>?_
   refine mu_block mu_to0 (mu_loop mu_to0 ?_)
   exact w_loop hn7 hlog hw7 rq7 (N1.kp k7) (N2.kp k7) (fun T3 hT3=>w_end L7 hT3) s1.log.length 0 T2 (by omega) hT2 g12
 clear rV7 hw1 rV6 R1 R2 S1 S2 P1 P2 N1 N2 L6 L4 L3 L1 nl1 nl2 hlog
 obtain ⟨K,hK,hV,key,yek⟩:=kKV (L:=Lone) (J:=fun g=>To0 Try.prog (LPost W) Z1 V6 g) mu_to0 (muv_to0 hnV6)
 refine key _ ?_
 repeat (first|(with_reducible first|(refine mu_region_end hK ?_;try subst hkk)|refine mu_block hK ?_|refine mu_inBlock hK ?_|refine mu_ret hK ?_|refine mu_end hK ?_)|refine mu_exit hK rfl ?_|(with_reducible refine mu_regionH hK (fun kk hkk=>?_); simp only [List.size_toArray,List.length_cons,List.length_nil,Nat.reduceAdd,Nat.zero_add,List.range,List.range.loop])|(with_reducible refine mu_cf hK ?_ ?_;(· first | (walk_nrm; done) | (simp [Act.eval]; done)))|(with_reducible refine mu_ct hK ?_ ?_;(· first | (walk_nrm; done) | (simp [Act.eval]; done)))|(refine mu_unwanted hK rfl rfl ?_; walk_nrm)|(refine muv_val hV rfl (by first | exact .inl rfl | exact .inr rfl) rfl (by kernel_rfl) (fun J hJ=>?_); go_simp; with_reducible refine hJ _ ?_; clear hJ J; walk_nrm))
 refine yek _ ?_
 clear hK hV key yek K
 refine (fun (h : ∀ Y0,X6w = Y0 → To0 Try.prog (LPost W) Z1 V6 (G ((base 3).at _ [.code Y0]) []))=>h _ (by simp only [W6n,W8n,W9n,W10n,W11n,XLq,XEq,X6w,X7w,B3w,nva,nvb,nvk,nvl,nvc2,Try.f3,Option.getD_some])) ?_
 intro Y0 hY0
 subst hY0
 exact FIN _ ⟨by simp,rfl,rfl,rfl,rfl⟩
end
end Go.Proofs.Ytibcdikfbhmheaa
