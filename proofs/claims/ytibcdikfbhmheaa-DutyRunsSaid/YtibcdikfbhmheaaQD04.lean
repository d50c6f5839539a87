import Derived.Test.YtibcdikfbhmheaaQD03
import Derived.Test.YtibcdikfbhmheaaB20
import Derived.Test.YtibcdikfbhmheaaB17
import Derived.Laws.MakeOwn
set_option linter.unusedSimpArgs false
set_option linter.unusedVariables false
set_option maxRecDepth 100000
set_option maxHeartbeats 4000000
namespace Go.Proofs.Ytibcdikfbhmheaa
open Go Go.Conc Go.Proofs
open Go.ConcN (sumTo upd sumTo_upd upd_ne upd_same)
set_option linter.unusedVariables false
structure RS (V0 : World) (n : Nat) (la : Option Addr) (lc : Nat) (acts : Nat → List (Int × Int)) (x : TS × List Nat) (v : Value) (V : World) : Prop where
 nrm : norm V = V
 kp : Kp V0 V
 out : ∃ av ov pv odv lgv,v = .agg #[.slice la n lc,av,ov,pv,odv,lgv] ∧ V.ownsRow 0 3 1 av n (rowN x.1.at_ n) ∧ V.ownsRow 0 4 1 ov n (rowB (fov x.1.st) n) ∧ V.ownsRow 0 4 1 pv n (rowB (fpk x.1.st) n) ∧ V.ownsRow 0 3 1 odv x.2.length (ints x.2) ∧ V.ownsRow 0 41 2 lgv x.1.log.length (notes x.1.log)
 le : ∀ j,j < n → x.1.at_ j ≤ (acts j).length
 cnt : x.1.log.length = sumTo n x.1.at_
theorem tgo_cnt (n i : Nat) : ∀ (l : List (Int × Int)) (p : Nat) (s : TS),s.at_ i = p → p ≤ (tgo n i l p s).at_ i ∧ (tgo n i l p s).at_ i ≤ p + l.length ∧ (tgo n i l p s).log.length + p = s.log.length + (tgo n i l p s).at_ i:=by
 intro l
 induction l with
 | nil=>intro p s h; rw [tgo]; show p ≤ s.at_ i ∧ s.at_ i ≤ p + 0 ∧ s.log.length + p = s.log.length + s.at_ i; omega
 | cons a r ih =>
   intro p s h
   obtain ⟨d,y⟩:=a
   have fin : ∀ x,p ≤ ((s.note i p).set i x).at_ i ∧ ((s.note i p).set i x).at_ i ≤ p + (r.length + 1) ∧ ((s.note i p).set i x).log.length + p = s.log.length + ((s.note i p).set i x).at_ i:=fun x=>by
     show p ≤ upd s.at_ i (p + 1) i ∧ upd s.at_ i (p + 1) i ≤ p + (r.length + 1) ∧ (s.log ++ [(i,p)]).length + p = s.log.length + upd s.at_ i (p + 1) i
     rw [upd_same,List.length_append,List.length_singleton]; omega
   have go : ∀ t : TS,t.at_ = upd s.at_ i (p + 1) → t.log = s.log ++ [(i,p)] → p ≤ (tgo n i r (p + 1) t).at_ i ∧ (tgo n i r (p + 1) t).at_ i ≤ p + (r.length + 1) ∧ (tgo n i r (p + 1) t).log.length + p = s.log.length + (tgo n i r (p + 1) t).at_ i:=fun t h1 h2=>by
     obtain ⟨a1,a2,a3⟩:=ih (p + 1) t (by rw [h1,upd_same])
     rw [h2,List.length_append,List.length_singleton] at a3
     omega
   rw [List.length_cons,tgo]
   split
   · exact fin 1
   · split
     · exact fin 2
     · split
       · exact go _ rfl rfl
       · split
         · exact fin 3
         · exact go _ rfl rfl
theorem sum_oneR (n : Nat) (f : Nat → Nat) (i : Nat) (hi : i < n) : f i ≤ sumTo n f:=by
 have h1:=sumTo_upd f 0 id hi
 simp only [id] at h1
 have h4 : sumTo n (fun a=>f a) = sumTo n f:=rfl
 omega
theorem row_pos {w : World} {e : TypeId} {v : Value} {n : Nat} {xs : List Value} (h : w.ownsRow 0 e 1 v n xs) (hn : 0 < n) : ∃ g c,v = .slice (some ⟨g,0,none⟩) n c ∧ g < w.heap.size:=by
 obtain ⟨_,⟨_,h0⟩ | ⟨g,cap,cur,h0,_,hh,_⟩⟩:=h
 · omega
 · exact ⟨g,cap,h0,(Array.getElem?_eq_some_iff.1 hh).1⟩
theorem one_rowB (f : Nat → Bool) (n : Nat) : ∀ y ∈ rowB f n,y.oneCell' = true:=fun y hy=>by
 obtain ⟨a,_,rfl⟩:=List.mem_map.1 hy
 rfl
theorem one_rowN (f : Nat → Nat) (n : Nat) : ∀ y ∈ rowN f n,y.oneCell' = true:=fun y hy=>by
 obtain ⟨a,_,rfl⟩:=List.mem_map.1 hy
 rfl
theorem ints_two (xs : List Nat) (i : Nat) : xs.length + 1 = (xs ++ [i]).length:=by simp
section
variable {V0 V : World} {n lc i : Nat} {la : Option Addr} {acts : Nat → List (Int × Int)} {ra : Nat → Option Addr} {rc : Nat → Nat} {x : TS × List Nat} {v : Value} {Z : Cuts} {Post : Value → World → Prop} {b₀ : Frame} {a₀ : Act} {ops₀ : Array Oper} {i₀ : Nat} {rest₀ : List Nat} {k₀ : List Item} {cs0 : List Frame}
set_option maxHeartbeats 1000000 in
theorem turn76_go (S : RS V0 n la lc acts x v V) (hR : Rw V0 la n acts ra rc) (hi : i < n) (hn : n < 1000000) (hsm : sumTo n (fun j=>(acts j).length) < 900000000) (hx : x.2.length < 800000000)
   (K : ∀ V' v',RS V0 n la lc acts (tstp n acts x i) v' V' → To0 Try.prog Post Z V' (G (b₀.at (a₀.put ((ops₀[i₀]?).bind (·.dst)) v') (.inRegion ops₀ rest₀ :: k₀)) cs0)) :
   To0 Try.prog Post Z V (G (Frame.enter Try.prog 76 #[v,.int .i64 (i : Int)] .normal) (b₀.at a₀ (.inRegion ops₀ (i₀ :: rest₀) :: k₀) :: cs0)):=by
 obtain ⟨nrm,kp,⟨av,ov,pv,odv,lgv,rfl,ra1,ra2,ra3,ra4,ra5⟩,le,cnt⟩:=S
 obtain ⟨s,xs⟩:=x
 simp only at ra1 ra2 ra3 ra4 ra5 le cnt hx
 rw [enter_at (P:=Try.prog) _ Try.func76 rfl]
 refine (fun (h : ∀ T,T.size = 150 → T[0]? = some (.agg #[.slice la n lc,av,ov,pv,odv,lgv]) → T[1]? = some (.int .i64 (i : Int)) → To0 Try.prog Post Z V (G ((base 76).at ⟨T,[]⟩ [.code B76]) (b₀.at a₀ (.inRegion ops₀ (i₀ :: rest₀) :: k₀) :: cs0)))=>h _ (by simp [Try.f76]) (by simp) (by simp)) ?_
 intro T hs t0 t1
 rw [B76_eq]
 obtain ⟨go,oc,eo,lgo⟩:=row_pos ra2 (by omega)
 obtain ⟨gp,pc,ep,lgp⟩:=row_pos ra3 (by omega)
 have f1:=slice_of ra1
 have f2:=slice_of ra2
 have f3:=slice_of ra3
 have f4:=slice_of ra4
 have f5:=slice_ofR ra5
 refine mu_seq mu_to0 ?_
 refine t_r0 ⟨_,_,_,rfl⟩ f1 f2 f3 f4 f5 nrm hs t0 t1 fun T1 V1 hT1 hn1 hk1 hsb1 hrb1=>?_
 have c2 : V1.cell? ⟨go,i,none⟩ = some (.bool (fov s.st i)):=by
   have:=row_keep ra2 (w':=V1) fun b hb=>hk1.keep b (row_at ra2 hb)
   rw [eo] at this
   exact (row_cell this (rowB_at hi)).1
 have c3 : V1.cell? ⟨gp,i,none⟩ = some (.bool (fpk s.st i)):=by
   have:=row_keep ra3 (w':=V1) fun b hb=>hk1.keep b (row_at ra3 hb)
   rw [ep] at this
   exact (row_cell this (rowB_at hi)).1
 refine mu_seq mu_to0 (mu_seq mu_to0 ?_)
 refine t_r1 hn1 hi (by rw [eo,ep] at hsb1; exact hsb1) c2 c3 hT1 fun T2 hT2 h20=>?_
 by_cases hst : cl (s.st i) = 0 ∨ cl (s.st i) = 1
 · have hf : (fov s.st i || fpk s.st i) = false:=by
     unfold fov fpk
     rw [decide_eq_false (by omega),decide_eq_false (by omega)]; rfl
   rw [hf] at h20
   refine mu_cond mu_to0 false (by show T2.getD 20 undef = _; simp [Array.getD_eq_getD_getElem?,h20]) ?_
   refine mu_skip mu_to0 (mu_seq mu_to0 ?_)
   have k1 : ∀ b,b < V.heap.size → V1.heap[b]? = V.heap[b]?:=hk1.keep
   refine t_r3 hn1 hsb1 (row_keep ra4 fun b hb=>k1 b (row_at ra4 hb)) (by omega) hT2 fun T3 V2 od' hT3 hn2 hsb2 hr2 hz2 hk2 ho2=>?_
   have lsb : V.heap.size < V1.heap.size:=(Array.getElem?_eq_some_iff.1 hsb1).1
   have lrb : V.heap.size + 1 < V1.heap.size:=(Array.getElem?_eq_some_iff.1 hrb1).1
   have k2 : ∀ b,b < V.heap.size → V2.heap[b]? = V.heap[b]?:=fun b hb=>(hk2 b (by omega) (by omega)).trans (k1 b hb)
   have hrb2:=(hk2 _ lrb (by omega)).trans hrb1
   refine mu_seq mu_to0 ?_
   refine t_r4 hn2 hsb2 (row_keep ra1 fun b hb=>k2 b (row_at ra1 hb)) (one_rowN _ _) (by omega) hT3 fun T4 V3 v3 hT4 h45 hn3 hk3 hr3 ho3=>?_
   refine mu_seq mu_to0 ?_
   have hsb3:=(hk3.keep _ (by omega)).trans hsb2
   have k3 : ∀ b,b < V.heap.size → V3.heap[b]? = V.heap[b]?:=fun b hb=>(hk3.keep b (by omega)).trans (k2 b hb)
   refine t_r5 (va:=v3) hn3 hsb3 (row_keep ra2 fun b hb=>k3 b (row_at ra2 hb)) (one_rowB _ _) (by omega) hT4 h45 fun T5 V4 v4 hT5 h55 h56 hn4 hk4 hr4 ho4=>?_
   refine mu_seq mu_to0 ?_
   have z3:=hk3.size
   have z4:=hk4.size
   have hsb4:=(hk4.keep _ (by omega)).trans hsb3
   have k4 : ∀ b,b < V.heap.size → V4.heap[b]? = V.heap[b]?:=fun b hb=>(hk4.keep b (by omega)).trans (k3 b hb)
   refine t_r6 (va:=v3) (vo:=v4) hn4 hsb4 (row_keep ra3 fun b hb=>k4 b (row_at ra3 hb)) (one_rowB _ _) (by omega) hT5 h55 h56 fun T6 V5 v5 hT6 h65 h66 h67 hn5 hk5 hr5 ho5=>?_
   have z5:=hk5.size
   refine mu_seq mu_to0 (mu_block mu_to0 (mu_loop mu_to0 ?_))
   have hK25 : Kp V2 V5:=(hk3.trans hk4).trans hk5
   have hsb5:=(hK25.keep _ (by omega)).trans hsb2
   have hrb5:=(hK25.keep _ (by omega)).trans hrb2
   have k5 : ∀ b,b < V.heap.size → V5.heap[b]? = V.heap[b]?:=fun b hb=>(hK25.keep b (by omega)).trans (k2 b hb)
   obtain ⟨ga,ca,e3,l3⟩:=row_pos hr3 (by omega)
   obtain ⟨go',oc',e4,l4⟩:=row_pos hr4 (by omega)
   obtain ⟨gp',pc',e5,l5⟩:=row_pos hr5 (by omega)
   have b3:=ho3 ga (by rw [e3]; rfl)
   have b4:=ho4 go' (by rw [e4]; rfl)
   have b5:=ho5 gp' (by rw [e5]; rfl)
   have hr3':=row_keep hr3 (w':=V5) fun b hb=>(hk4.trans hk5).keep b (row_at hr3 hb)
   have hr4':=row_keep hr4 (w':=V5) fun b hb=>hk5.keep b (row_at hr4 hb)
   have hod:=row_keep hr2 (w':=V5) fun b hb=>hK25.keep b (row_at hr2 hb)
   have hlg:=row_keep ra5 (w':=V5) fun b hb=>k5 b (row_at ra5 hb)
   have hKV : Kp V V5:=⟨by omega,k5⟩
   subst e3 e4 e5
   obtain ⟨k,hk⟩ : ∃ k : Tk,k = ⟨n,i,V.heap.size,V.heap.size + 1,ga,go',gp',ca,oc',pc',lc,la,av,ov,pv,V⟩:=⟨_,rfl⟩
   have O : k.Ok:=by
     subst hk
     exact ⟨hi,⟨Nat.le_refl _,Nat.le_succ _,by show V.heap.size ≤ ga; omega,by show V.heap.size ≤ go'; omega,by show V.heap.size ≤ gp'; omega⟩,⟨by show V.heap.size ≠ V.heap.size + 1; omega,by show ga ≠ V.heap.size; omega,by show ga ≠ V.heap.size + 1; omega,by show go' ≠ V.heap.size; omega,by show go' ≠ V.heap.size + 1; omega,by show gp' ≠ V.heap.size; omega,by show gp' ≠ V.heap.size + 1; omega,by show ga ≠ go'; omega,by show ga ≠ gp'; omega,by show go' ≠ gp'; omega⟩,f1,f2,f3⟩
   have hR':=hR.kp kp
   have A : AR k (acts i):=by
     subst hk
     obtain ⟨g,o,e,hg,c⟩:=hR'.out (by omega)
     refine ⟨⟨g,o,ra i,rc i,e,hg,c i hi,fun h0=>?_⟩,?_⟩
     · obtain ⟨h,q,e1,h1,h2⟩:=hR'.inn i hi h0
       exact ⟨h,q,e1,h1,h2⟩
     · have:=sum_oneR n (fun j=>(acts j).length) i hi
       omega
   have I : TI k s.at_ s.log (fov s.st) (fpk s.st) (xs ++ [i]) V5 od' lgv:=by
     subst hk
     refine ⟨hn5,hKV,hsb5,hrb5,hr3',hr4',hr5,by rw [← ints_two]; exact hod,hlg,fun e=>?_⟩
     have:=row_at hr2 e
     have b3' : V2.heap.size ≤ ga:=b3
     have this' : ga < V2.heap.size:=this
     omega
   have hT : HT9 T6 k.i k.sb k.rb k.av k.ov k.pv:=by
     subst hk
     exact ⟨hT6.1,hT6.2.1,hT6.2.2.1,hT6.2.2.2,h65,h66,h67⟩
   have hle:=le i hi
   refine t_loop O A ((acts i).drop (s.at_ i)) (s.at_ i) s V5 T6 lgv rfl hle (by subst hk; rfl) (by subst hk; rcases hst with h | h; exact .inl ((cl_zero _).1 h); exact .inr ((cl_one _).1 h)) ?_ I hT fun V' lg' E=>?_
   · have h1:=sumTo_upd s.at_ (acts i).length id hi
     simp only [id] at h1
     have h2 : sumTo n (upd s.at_ i (acts i).length) ≤ sumTo n fun j=>(acts j).length:=sum_le_of fun j hj=>by
       by_cases e : j = i
       · subst e; rw [upd_same]; exact Nat.le_refl _
       · rw [upd_ne _ _ e]; exact le j hj
     have h3 : sumTo n (fun a=>upd s.at_ i (acts i).length a) = sumTo n (upd s.at_ i (acts i).length):=rfl
     have h4 : sumTo n (fun a=>s.at_ a) = sumTo n s.at_:=rfl
     omega
   · refine K V' (tRes k od' lg') ?_
     unfold tstp
     rw [if_pos hst]
     obtain ⟨a1,a2,a3⟩:=tgo_cnt n i ((acts i).drop (s.at_ i)) (s.at_ i) s rfl
     have hat : (tgo n i ((acts i).drop (s.at_ i)) (s.at_ i) s).at_ = upd s.at_ i ((tgo n i ((acts i).drop (s.at_ i)) (s.at_ i) s).at_ i):=by
       funext j
       by_cases e : j = i
       · subst e; rw [upd_same]
       · rw [upd_ne _ _ e]; exact tgo_at n i j e _ _ _
     subst hk
     refine ⟨E.nrm,kp.trans E.kp,⟨_,_,_,_,_,rfl,E.a,E.o,E.q,E.od,E.lg⟩,fun j hj=>?_,?_⟩
     · show (tgo n i ((acts i).drop (s.at_ i)) (s.at_ i) s).at_ j ≤ _
       by_cases e : j = i
       · subst e
         rw [List.length_drop] at a2
         omega
       · rw [tgo_at n i j e]; exact le j hj
     · show (tgo n i ((acts i).drop (s.at_ i)) (s.at_ i) s).log.length = sumTo n (tgo n i ((acts i).drop (s.at_ i)) (s.at_ i) s).at_
       have h1:=sumTo_upd s.at_ ((tgo n i ((acts i).drop (s.at_ i)) (s.at_ i) s).at_ i) id hi
       simp only [id] at h1
       rw [hat]
       have h3 : sumTo n (fun a=>upd s.at_ i ((tgo n i ((acts i).drop (s.at_ i)) (s.at_ i) s).at_ i) a) = sumTo n (upd s.at_ i ((tgo n i ((acts i).drop (s.at_ i)) (s.at_ i) s).at_ i)):=rfl
       have h4 : sumTo n (fun a=>s.at_ a) = sumTo n s.at_:=rfl
       omega
 · have hf : (fov s.st i || fpk s.st i) = true:=by
     unfold fov fpk
     rcases cl_four (s.st i) with h | h | h | h
     · exact absurd (.inl h) hst
     · exact absurd (.inr h) hst
     · rw [h]; rfl
     · rw [h]; rfl
   rw [hf] at h20
   refine mu_cond mu_to0 true (by show T2.getD 20 undef = _; simp [Array.getD_eq_getD_getElem?,h20]) ?_
   refine mu_seq mu_to0 ?_
   refine t_r2 ⟨_,_,_,rfl⟩ f1 f2 f3 f4 f5 hn1 (by omega) hsb1 hrb1 hT2 fun T3 hT3=>?_
   have e2:=six_cells (v0:=.slice la n lc) (v1:=av) (v2:=ov) (v3:=pv) (v4:=odv) (v5:=lgv) hrb1
   have hs2 : ∀ b,b < V.heap.size → ((((((V1.setCell ⟨V.heap.size + 1,0,none⟩ (.slice la n lc)).setCell ⟨V.heap.size + 1,1,none⟩ av).setCell ⟨V.heap.size + 1,2,none⟩ ov).setCell ⟨V.heap.size + 1,3,none⟩ pv).setCell ⟨V.heap.size + 1,4,none⟩ odv).setCell ⟨V.heap.size + 1,5,none⟩ lgv).heap[b]? = V.heap[b]?:=fun b hb=>(six_off (by omega)).trans (hk1.keep b hb)
   have hz2 : ((((((V1.setCell ⟨V.heap.size + 1,0,none⟩ (.slice la n lc)).setCell ⟨V.heap.size + 1,1,none⟩ av).setCell ⟨V.heap.size + 1,2,none⟩ ov).setCell ⟨V.heap.size + 1,3,none⟩ pv).setCell ⟨V.heap.size + 1,4,none⟩ odv).setCell ⟨V.heap.size + 1,5,none⟩ lgv).heap.size = V1.heap.size:=six_size
   have hnn : norm ((((((V1.setCell ⟨V.heap.size + 1,0,none⟩ (.slice la n lc)).setCell ⟨V.heap.size + 1,1,none⟩ av).setCell ⟨V.heap.size + 1,2,none⟩ ov).setCell ⟨V.heap.size + 1,3,none⟩ pv).setCell ⟨V.heap.size + 1,4,none⟩ odv).setCell ⟨V.heap.size + 1,5,none⟩ lgv) = _:=norm_set (norm_set (norm_set (norm_set (norm_set (norm_set hn1 _ _) _ _) _ _) _ _) _ _) _ _
   generalize ((((((V1.setCell ⟨V.heap.size + 1,0,none⟩ (.slice la n lc)).setCell ⟨V.heap.size + 1,1,none⟩ av).setCell ⟨V.heap.size + 1,2,none⟩ ov).setCell ⟨V.heap.size + 1,3,none⟩ pv).setCell ⟨V.heap.size + 1,4,none⟩ odv).setCell ⟨V.heap.size + 1,5,none⟩ lgv) = V2 at *
   refine t_out ⟨_,_,_,rfl⟩ f1 f2 f3 f4 f5 hnn e2 hT3.2.2.2 (K V2 _ ?_)
   unfold tstp
   rw [if_neg hst]
   have hkk : Kp V V2:=⟨by have:=hk1.size; omega,hs2⟩
   exact ⟨hnn,kp.trans hkk,⟨_,_,_,_,_,rfl,row_keep ra1 fun b hb=>hs2 b (row_at ra1 hb),row_keep ra2 fun b hb=>hs2 b (row_at ra2 hb),row_keep ra3 fun b hb=>hs2 b (row_at ra3 hb),row_keep ra4 fun b hb=>hs2 b (row_at ra4 hb),row_keep ra5 fun b hb=>hs2 b (row_at ra5 hb)⟩,le,cnt⟩
end
end Go.Proofs.Ytibcdikfbhmheaa

namespace Go.Proofs.Ytibcdikfbhmheaa
open Go Go.Conc Go.Proofs
open Go.ConcN (sumTo upd sumTo_upd upd_ne upd_same)
set_option linter.unusedVariables false
theorem mkk {t e : TypeId} {z : Value} {B : Nat} (ht : Try.prog.underlying t = some (.slice e)) (hi : (Try.prog.info? e).map (fun i=>(i.zero,i.size,i.bytes)) = some (some z,1,B)) (hz : z.cells = #[z]) (hB : B ≤ 100) {k : Nat} (hk : k ≤ 1000) (w : World) : (Instr.makeSlice t (.int .i64 (k : Int)) (.int .i64 (k : Int))).run Try.prog w = .ok (.slice (some ⟨w.heap.size,0,none⟩) k k) (w.alloc (.cells (madeCells #[z] k) e)):=by
 obtain ⟨i0,hi0,hzz⟩ : ∃ i0,Try.prog.info? e = some i0 ∧ (i0.zero,i0.size,i0.bytes) = (some z,1,B):=by
   cases h : Try.prog.info? e with
   | none=>rw [h] at hi; cases hi
   | some i0=>rw [h] at hi; exact ⟨i0,rfl,by simpa using hi⟩
 obtain ⟨hz0,hz1,hz2⟩ : i0.zero = some z ∧ i0.size = 1 ∧ i0.bytes = B:=by simpa using hzz
 have hb : k * i0.bytes ≤ 1000 * 100:=Nat.mul_le_mul hk (by rw [hz2]; exact hB)
 have h:=run_make (P:=Try.prog) w t e i0 z ht hi0 hz0 .i64 .i64 k k (by omega) (Int.le_refl _) (by rw [Nat.mul_comm] at hb; omega) (by omega)
 rw [hz1] at h
 simpa [hz] using h
theorem made_row {z : Value} {k : Nat} (hk : k ≤ 1000) {w : World} {g : Nat} {e : TypeId} (h : w.heap[g]? = some (.cells (madeCells #[z] k) e (0,0))) : w.ownsRow 0 e 1 (.slice (some ⟨g,0,none⟩) k k) k (List.replicate k z):=by
 have e1 : (madeCells #[z] k).toList = List.replicate k z:=by
   apply List.ext_getElem?
   intro j
   rw [Array.getElem?_toList,List.getElem?_replicate]
   by_cases hj : j < k
   · rw [if_pos hj]; simp [madeCells,hj,Nat.mod_one]
   · rw [if_neg hj]; simp [madeCells,hj]
 refine ⟨by simp,.inr ⟨g,k,_,rfl,Nat.zero_le _,h,Nat.le_refl _,by simp [maxLen]; omega,by simp [madeCells],?_⟩⟩
 rw [e1,Nat.mul_one,List.take_of_length_le (by simp)]
theorem rep_rowN (n : Nat) : List.replicate n (Value.int .i64 0) = rowN tzero.at_ n:=by
 apply List.ext_getElem?
 intro j
 rw [List.getElem?_replicate]
 by_cases h : j < n
 · rw [if_pos h,rowN_at h]; rfl
 · rw [if_neg h,List.getElem?_eq_none (by simp [rowN]; omega)]
theorem rep_rowB (n : Nat) (f : Nat → Bool) (hf : ∀ j,f j = false) : List.replicate n (Value.bool false) = rowB f n:=by
 apply List.ext_getElem?
 intro j
 rw [List.getElem?_replicate]
 by_cases h : j < n
 · rw [if_pos h,rowB_at h,hf]
 · rw [if_neg h,List.getElem?_eq_none (by simp [rowB]; omega)]
theorem zero_sum (n : Nat) : sumTo n (fun _=>0) = 0:=by
 induction n with
 | zero=>rfl
 | succ n ih=>simp [sumTo,ih]
theorem new_rs {V w : World} {n lc rb ga go gp : Nat} {la : Option Addr} {acts : Nat → List (Int × Int)} (hn : n ≤ 1000) (hr : rb = V.heap.size) (hk : Kp V w) (hne : ga ≠ rb ∧ go ≠ rb ∧ gp ≠ rb)
   (h1 : w.heap[ga]? = some (.cells (madeCells #[.int .i64 0] n) 3 (0,0))) (h2 : w.heap[go]? = some (.cells (madeCells #[.bool false] n) 4 (0,0))) (h3 : w.heap[gp]? = some (.cells (madeCells #[.bool false] n) 4 (0,0))) {W : World} (hW : ∀ b,b ≠ rb → W.heap[b]? = w.heap[b]?) (hz : W.heap.size = w.heap.size) :
   RS V n la lc acts (tzero,[]) (.agg #[.slice la n lc,.slice (some ⟨ga,0,none⟩) n n,.slice (some ⟨go,0,none⟩) n n,.slice (some ⟨gp,0,none⟩) n n,.slice none 0 0,.slice none 0 0]) (norm W):=by
 subst hr
 refine ⟨rfl,⟨by show V.heap.size ≤ W.heap.size; rw [hz]; exact hk.size,fun b hb=>?_⟩,⟨_,_,_,_,_,rfl,?_,?_,?_,⟨rfl,.inl ⟨rfl,rfl⟩⟩,⟨rfl,.inl ⟨rfl,rfl⟩⟩⟩,fun j _=>Nat.zero_le _,(zero_sum n).symm⟩
 · show W.heap[b]? = _
   rw [hW b (by omega)]; exact hk.keep b hb
 · show (norm W).ownsRow 0 3 1 _ n (rowN tzero.at_ n)
   rw [← rep_rowN]
   exact made_row hn (by show W.heap[ga]? = _; rw [hW _ hne.1]; exact h1)
 · show (norm W).ownsRow 0 4 1 _ n (rowB (fov tzero.st) n)
   rw [← rep_rowB n (fov tzero.st) fun j=>rfl]
   exact made_row hn (by show W.heap[go]? = _; rw [hW _ hne.2.1]; exact h2)
 · show (norm W).ownsRow 0 4 1 _ n (rowB (fpk tzero.st) n)
   rw [← rep_rowB n (fpk tzero.st) fun j=>rfl]
   exact made_row hn (by show W.heap[gp]? = _; rw [hW _ hne.2.2]; exact h3)
def set6 (w : World) (b : Nat) (la : Option Addr) (n lc ga go gp : Nat) : World:=(((((w.setCell ⟨b,0,none⟩ (.slice la n lc)).setCell ⟨b,1,none⟩ (.slice (some ⟨ga,0,none⟩) n n)).setCell ⟨b,2,none⟩ (.slice (some ⟨go,0,none⟩) n n)).setCell ⟨b,3,none⟩ (.slice (some ⟨gp,0,none⟩) n n)).setCell ⟨b,4,none⟩ (.slice none 0 0)).setCell ⟨b,5,none⟩ (.slice none 0 0)
theorem six_read {w : World} {b : Nat} {v0 v1 v2 v3 v4 v5 : Value} (h : w.heap[b]? = some (.cells #[v0,v1,v2,v3,v4,v5] 34 (0,0))) : w.cell? ⟨b,0,none⟩ = some v0 ∧ w.cell? ⟨b,1,none⟩ = some v1 ∧ w.cell? ⟨b,2,none⟩ = some v2 ∧ w.cell? ⟨b,3,none⟩ = some v3 ∧ w.cell? ⟨b,4,none⟩ = some v4 ∧ w.cell? ⟨b,5,none⟩ = some v5:=⟨cell_of h (by simp),cell_of h (by simp),cell_of h (by simp),cell_of h (by simp),cell_of h (by simp),cell_of h (by simp)⟩
theorem set6_all {w : World} {b n lc ga go gp : Nat} {la : Option Addr} {v0 v1 v2 v3 v4 v5 : Value} (h : w.heap[b]? = some (.cells #[v0,v1,v2,v3,v4,v5] 34 (0,0))) : (set6 w b la n lc ga go gp).heap[b]? = some (.cells #[.slice la n lc,.slice (some ⟨ga,0,none⟩) n n,.slice (some ⟨go,0,none⟩) n n,.slice (some ⟨gp,0,none⟩) n n,.slice none 0 0,.slice none 0 0] 34 (0,0)) ∧ w.cell? ⟨b,0,none⟩ = some v0 ∧ w.cell? ⟨b,1,none⟩ = some v1 ∧ w.cell? ⟨b,2,none⟩ = some v2 ∧ w.cell? ⟨b,3,none⟩ = some v3 ∧ w.cell? ⟨b,4,none⟩ = some v4 ∧ w.cell? ⟨b,5,none⟩ = some v5 ∧ w.frozen? ⟨b,0,none⟩ = false ∧ w.frozen? ⟨b,1,none⟩ = false ∧ w.frozen? ⟨b,2,none⟩ = false ∧ w.frozen? ⟨b,3,none⟩ = false ∧ w.frozen? ⟨b,4,none⟩ = false ∧ w.frozen? ⟨b,5,none⟩ = false:=by
 obtain ⟨d0,d1,d2,d3,d4,d5⟩:=six_read h
 refine ⟨six_cells h,d0,d1,d2,d3,d4,d5,?_,?_,?_,?_,?_,?_⟩ <;> simp [World.frozen?,h]
theorem al_all {V w : World} (h : Kp V w) (o : Obj) : (w.alloc o).heap.size = w.heap.size + 1 ∧ Kp V (w.alloc o) ∧ (w.alloc o).heap[w.heap.size]? = some o ∧ ∀ (b : Nat) x,w.heap[b]? = some x → (w.alloc o).heap[b]? = some x:=⟨alloc_size _ _,⟨by rw [alloc_size]; have:=h.size; omega,fun b hb=>by have:=h.size; rw [alloc_get,if_neg (by omega)]; exact h.keep b hb⟩,by rw [alloc_get,if_pos rfl],fun b x hx=>by rw [alloc_get,if_neg (by have:=(Array.getElem?_eq_some_iff.1 hx).1; omega)]; exact hx⟩
theorem new75 {V : World} {n lc : Nat} {la : Option Addr} (acts : Nat → List (Int × Int)) (hn : n ≤ 1000) (τ : Tape) :
   Calls Try.prog 75 #[.slice la n lc] (re V τ 0) fun e w'=>match e with | .returned v=>RS V n la lc acts (tzero,[]) v (norm w') | _=>False:=by
 go_enter Try.func75,Try.ntmps75
 go_wp2_with fail
 rename_i hKK
 have hzq : (re V τ 0).heap.size = V.heap.size:=rfl
 have hkA : Kp V ((re V τ 0).alloc (.cells #[.slice none 0 0,.slice none 0 0,.slice none 0 0,.slice none 0 0,.slice none 0 0,.slice none 0 0] 34)):=⟨by rw [alloc_size,hzq]; omega,fun b hb=>by rw [alloc_get,if_neg (by rw [hzq]; omega)]; rfl⟩
 have hA2 : ((re V τ 0).alloc (.cells #[.slice none 0 0,.slice none 0 0,.slice none 0 0,.slice none 0 0,.slice none 0 0,.slice none 0 0] 34)).heap[V.heap.size]? = some (.cells #[.slice none 0 0,.slice none 0 0,.slice none 0 0,.slice none 0 0,.slice none 0 0,.slice none 0 0] 34 (0,0)):=by rw [alloc_get,if_pos hzq.symm]
 have hsA : ((re V τ 0).alloc (.cells #[.slice none 0 0,.slice none 0 0,.slice none 0 0,.slice none 0 0,.slice none 0 0,.slice none 0 0] 34)).heap.size = V.heap.size + 1:=by rw [alloc_size,hzq]
 rw [hzq]
 generalize (re V τ 0).alloc (.cells #[.slice none 0 0,.slice none 0 0,.slice none 0 0,.slice none 0 0,.slice none 0 0,.slice none 0 0] 34) = A at *
 refine wp_region_g (fun _ _=>True) (by kernel_rfl) ?_
 simp only [List.size_toArray,List.length_cons,List.length_nil,Nat.reduceAdd,Nat.zero_add,Array.replicate_succ,Array.replicate_zero,List.push_toArray,List.nil_append,List.cons_append]
 generalize hw0 : ({ A with drawn:=A.drawn + 1 } : World) = w0
 have hh : w0.heap = A.heap:=by rw [← hw0]
 have hk0 : Kp V w0:=⟨by rw [hh]; exact hkA.size,by rw [hh]; exact hkA.keep⟩
 have h2w0 : w0.heap[V.heap.size]? = some (.cells #[.slice none 0 0,.slice none 0 0,.slice none 0 0,.slice none 0 0,.slice none 0 0,.slice none 0 0] 34 (0,0)):=by rw [hh]; exact hA2
 have hs0 : w0.heap.size = V.heap.size + 1:=by rw [hh]; exact hsA
 clear hzq hkA hA2 hsA hw0 hh
 refine wpAnyG_take (i:=0) (v:=.slice la n lc) rfl (by kernel_rfl) (by kernel_rfl) (by kernel_rfl) (by kernel_rfl) (fun _ _ _ h=>h) (fun l w=>Iff.rfl) (Or.inl ⟨by rfl,fun w5 hS5=>by go_simp⟩) trivial ?_
 walk_nrm
 refine wpAnyG_take (i:=1) (v:=.slice la n lc) rfl (by kernel_rfl) (by kernel_rfl) (by kernel_rfl) (by kernel_rfl) (fun _ _ _ h=>h) (fun l w=>Iff.rfl) (Or.inl ⟨by rfl,fun w5 hS5=>by go_simp⟩) trivial ?_
 walk_nrm
 refine wpAnyG_take (i:=2) (v:=.int .i64 (n : Int)) rfl (by kernel_rfl) (by kernel_rfl) (by kernel_rfl) (by kernel_rfl) (fun _ _ _ h=>h) (fun l w=>Iff.rfl) (Or.inl ⟨by rfl,fun w5 hS5=>by go_simp⟩) trivial ?_
 walk_nrm
 refine wpAnyG_take (i:=4) (v:=.slice la n lc) rfl (by kernel_rfl) (by kernel_rfl) (by kernel_rfl) (by kernel_rfl) (fun _ _ _ h=>h) (fun l w=>Iff.rfl) (Or.inl ⟨by rfl,fun w5 hS5=>by go_simp⟩) trivial ?_
 walk_nrm
 refine wpAnyG_take (i:=5) (v:=.int .i64 (n : Int)) rfl (by kernel_rfl) (by kernel_rfl) (by kernel_rfl) (by kernel_rfl) (fun _ _ _ h=>h) (fun l w=>Iff.rfl) (Or.inl ⟨by rfl,fun w5 hS5=>by go_simp⟩) trivial ?_
 walk_nrm
 refine wpAnyG_take (i:=7) (v:=.slice la n lc) rfl (by kernel_rfl) (by kernel_rfl) (by kernel_rfl) (by kernel_rfl) (fun _ _ _ h=>h) (fun l w=>Iff.rfl) (Or.inl ⟨by rfl,fun w5 hS5=>by go_simp⟩) trivial ?_
 walk_nrm
 refine wpAnyG_take (i:=8) (v:=.int .i64 (n : Int)) rfl (by kernel_rfl) (by kernel_rfl) (by kernel_rfl) (by kernel_rfl) (fun _ _ _ h=>h) (fun l w=>Iff.rfl) (Or.inl ⟨by rfl,fun w5 hS5=>by go_simp⟩) trivial ?_
 walk_nrm
 refine wpAnyG_all (rs:=[3,6,9]) (by kernel_rfl) (by simp) (fun j hj=>?_)
 rcases (show j = 3 ∨ j = 6 ∨ j = 9 by simpa using hj) with rfl | rfl | rfl
 · skip
   refine wpOp_val (v:=.slice (some ⟨w0.heap.size,0,none⟩) n n) (w':=w0.alloc (.cells (madeCells #[.int .i64 0] n) 3)) rfl rfl (by have mk:=mkk (t:=23) (e:=3) (z:=.int .i64 0) (B:=8) Try.underlying23 (by kernel_rfl) rfl (by decide) hn w0; go_simp) ⟨trivial,?_⟩
   walk_nrm
   obtain ⟨hsw1,kw1,new1,AK⟩:=al_all hk0 (.cells (madeCells #[.int .i64 0] n) 3)
   have h2w1:=AK _ _ h2w0
   clear AK
   generalize w0.alloc (.cells (madeCells #[.int .i64 0] n) 3) = w1 at *
   obtain ⟨g3,eqg3⟩ : ∃ x,x = w0.heap.size:=⟨_,rfl⟩
   have glg3 : V.heap.size < g3 ∧ g3 < w1.heap.size:=by omega
   rw [← eqg3] at new1 ⊢
   have geg3:=new1
   clear new1
   refine wpAnyG_all (rs:=[6,9]) (by kernel_rfl) (by simp) (fun j hj=>?_)
   rcases (show j = 6 ∨ j = 9 by simpa using hj) with rfl | rfl
   · skip
     refine wpOp_val (v:=.slice (some ⟨w1.heap.size,0,none⟩) n n) (w':=w1.alloc (.cells (madeCells #[.bool false] n) 4)) rfl rfl (by have mk:=mkk (t:=26) (e:=4) (z:=.bool false) (B:=1) Try.underlying26 (by kernel_rfl) rfl (by decide) hn w1; go_simp) ⟨trivial,?_⟩
     walk_nrm
     obtain ⟨hsw2,kw2,new2,AK⟩:=al_all kw1 (.cells (madeCells #[.bool false] n) 4)
     have h2w2:=AK _ _ h2w1
     have geg3:=AK _ _ geg3
     clear AK
     generalize w1.alloc (.cells (madeCells #[.bool false] n) 4) = w2 at *
     obtain ⟨g6,eqg6⟩ : ∃ x,x = w1.heap.size:=⟨_,rfl⟩
     have glg6 : V.heap.size < g6 ∧ g6 < w2.heap.size:=by omega
     rw [← eqg6] at new2 ⊢
     have geg6:=new2
     clear new2
     refine wpAnyG_all (rs:=[9]) (by kernel_rfl) (by simp) (fun j hj=>?_)
     obtain rfl : j = 9:=by simpa using hj
     refine wpOp_val (v:=.slice (some ⟨w2.heap.size,0,none⟩) n n) (w':=w2.alloc (.cells (madeCells #[.bool false] n) 4)) rfl rfl (by have mk:=mkk (t:=26) (e:=4) (z:=.bool false) (B:=1) Try.underlying26 (by kernel_rfl) rfl (by decide) hn w2; go_simp) ⟨trivial,?_⟩
     walk_nrm
     obtain ⟨hsw3,kw3,new3,AK⟩:=al_all kw2 (.cells (madeCells #[.bool false] n) 4)
     have h2w3:=AK _ _ h2w2
     have geg3:=AK _ _ geg3
     have geg6:=AK _ _ geg6
     clear AK
     generalize w2.alloc (.cells (madeCells #[.bool false] n) 4) = w3 at *
     obtain ⟨g9,eqg9⟩ : ∃ x,x = w2.heap.size:=⟨_,rfl⟩
     have glg9 : V.heap.size < g9 ∧ g9 < w3.heap.size:=by omega
     rw [← eqg9] at new3 ⊢
     have geg9:=new3
     clear new3
     refine wpAnyG_all (rs:=[10]) (by kernel_rfl) (by simp) (fun j hj=>?_)
     obtain rfl : j = 10:=by simpa using hj
     refine wpOp_val (v:=.agg #[.slice la n lc,.slice (some ⟨g3,0,none⟩) n n,.slice (some ⟨g6,0,none⟩) n n,.slice (some ⟨g9,0,none⟩) n n,.slice none 0 0,.slice none 0 0]) (w':=w3) rfl rfl (by go_simp) ⟨trivial,?_⟩
     walk_nrm
     obtain ⟨he,c0,c1,c2,c3,c4,c5,z0,z1,z2,z3,z4,z5⟩:=set6_all (la:=la) (n:=n) (lc:=lc) (ga:=g3) (go:=g6) (gp:=g9) h2w3
     have RES:=new_rs (W:=set6 w3 V.heap.size la n lc g3 g6 g9) (lc:=lc) (la:=la) (acts:=acts) hn rfl kw3 ⟨by omega,by omega,by omega⟩ geg3 geg6 geg9 (fun b hb=>six_off hb) six_size
     refine wpAnyG_all (rs:=[11]) (by kernel_rfl) (by simp) (fun j hj=>?_)
     obtain rfl : j = 11:=by simpa using hj
     refine wpOp_skip (w':=set6 w3 V.heap.size la n lc g3 g6 g9) rfl rfl (by go_simp; try rfl) ⟨trivial,?_⟩
     walk_nrm
     clear c0 c1 c2 c3 c4 c5 z0 z1 z2 z3 z4 z5
     generalize set6 w3 V.heap.size la n lc g3 g6 g9 = W at *
     obtain ⟨d0,d1,d2,d3,d4,d5⟩:=six_read he
     refine wpAnyG_done (by kernel_rfl) (hKK _ _ ?_) _
     go_wp2
     try simp only [Exit.inBlock,Exit.then]
     refine bodyPost_ret (v:=.agg #[.slice la n lc,.slice (some ⟨g3,0,none⟩) n n,.slice (some ⟨g6,0,none⟩) n n,.slice (some ⟨g9,0,none⟩) n n,.slice none 0 0,.slice none 0 0]) ?_ rfl RES
     simp only [results,Try.f75,List.mapM_toArray,List.mapM_cons,List.mapM_nil,Sem.run_bind]
     go_simp
   · skip
     refine wpOp_val (v:=.slice (some ⟨w1.heap.size,0,none⟩) n n) (w':=w1.alloc (.cells (madeCells #[.bool false] n) 4)) rfl rfl (by have mk:=mkk (t:=26) (e:=4) (z:=.bool false) (B:=1) Try.underlying26 (by kernel_rfl) rfl (by decide) hn w1; go_simp) ⟨trivial,?_⟩
     walk_nrm
     obtain ⟨hsw2,kw2,new2,AK⟩:=al_all kw1 (.cells (madeCells #[.bool false] n) 4)
     have h2w2:=AK _ _ h2w1
     have geg3:=AK _ _ geg3
     clear AK
     generalize w1.alloc (.cells (madeCells #[.bool false] n) 4) = w2 at *
     obtain ⟨g9,eqg9⟩ : ∃ x,x = w1.heap.size:=⟨_,rfl⟩
     have glg9 : V.heap.size < g9 ∧ g9 < w2.heap.size:=by omega
     rw [← eqg9] at new2 ⊢
     have geg9:=new2
     clear new2
     refine wpAnyG_all (rs:=[6]) (by kernel_rfl) (by simp) (fun j hj=>?_)
     obtain rfl : j = 6:=by simpa using hj
     refine wpOp_val (v:=.slice (some ⟨w2.heap.size,0,none⟩) n n) (w':=w2.alloc (.cells (madeCells #[.bool false] n) 4)) rfl rfl (by have mk:=mkk (t:=26) (e:=4) (z:=.bool false) (B:=1) Try.underlying26 (by kernel_rfl) rfl (by decide) hn w2; go_simp) ⟨trivial,?_⟩
     walk_nrm
     obtain ⟨hsw3,kw3,new3,AK⟩:=al_all kw2 (.cells (madeCells #[.bool false] n) 4)
     have h2w3:=AK _ _ h2w2
     have geg3:=AK _ _ geg3
     have geg9:=AK _ _ geg9
     clear AK
     generalize w2.alloc (.cells (madeCells #[.bool false] n) 4) = w3 at *
     obtain ⟨g6,eqg6⟩ : ∃ x,x = w2.heap.size:=⟨_,rfl⟩
     have glg6 : V.heap.size < g6 ∧ g6 < w3.heap.size:=by omega
     rw [← eqg6] at new3 ⊢
     have geg6:=new3
     clear new3
     refine wpAnyG_all (rs:=[10]) (by kernel_rfl) (by simp) (fun j hj=>?_)
     obtain rfl : j = 10:=by simpa using hj
     refine wpOp_val (v:=.agg #[.slice la n lc,.slice (some ⟨g3,0,none⟩) n n,.slice (some ⟨g6,0,none⟩) n n,.slice (some ⟨g9,0,none⟩) n n,.slice none 0 0,.slice none 0 0]) (w':=w3) rfl rfl (by go_simp) ⟨trivial,?_⟩
     walk_nrm
     obtain ⟨he,c0,c1,c2,c3,c4,c5,z0,z1,z2,z3,z4,z5⟩:=set6_all (la:=la) (n:=n) (lc:=lc) (ga:=g3) (go:=g6) (gp:=g9) h2w3
     have RES:=new_rs (W:=set6 w3 V.heap.size la n lc g3 g6 g9) (lc:=lc) (la:=la) (acts:=acts) hn rfl kw3 ⟨by omega,by omega,by omega⟩ geg3 geg6 geg9 (fun b hb=>six_off hb) six_size
     refine wpAnyG_all (rs:=[11]) (by kernel_rfl) (by simp) (fun j hj=>?_)
     obtain rfl : j = 11:=by simpa using hj
     refine wpOp_skip (w':=set6 w3 V.heap.size la n lc g3 g6 g9) rfl rfl (by go_simp; try rfl) ⟨trivial,?_⟩
     walk_nrm
     clear c0 c1 c2 c3 c4 c5 z0 z1 z2 z3 z4 z5
     generalize set6 w3 V.heap.size la n lc g3 g6 g9 = W at *
     obtain ⟨d0,d1,d2,d3,d4,d5⟩:=six_read he
     refine wpAnyG_done (by kernel_rfl) (hKK _ _ ?_) _
     go_wp2
     try simp only [Exit.inBlock,Exit.then]
     refine bodyPost_ret (v:=.agg #[.slice la n lc,.slice (some ⟨g3,0,none⟩) n n,.slice (some ⟨g6,0,none⟩) n n,.slice (some ⟨g9,0,none⟩) n n,.slice none 0 0,.slice none 0 0]) ?_ rfl RES
     simp only [results,Try.f75,List.mapM_toArray,List.mapM_cons,List.mapM_nil,Sem.run_bind]
     go_simp
 · skip
   refine wpOp_val (v:=.slice (some ⟨w0.heap.size,0,none⟩) n n) (w':=w0.alloc (.cells (madeCells #[.bool false] n) 4)) rfl rfl (by have mk:=mkk (t:=26) (e:=4) (z:=.bool false) (B:=1) Try.underlying26 (by kernel_rfl) rfl (by decide) hn w0; go_simp) ⟨trivial,?_⟩
   walk_nrm
   obtain ⟨hsw1,kw1,new1,AK⟩:=al_all hk0 (.cells (madeCells #[.bool false] n) 4)
   have h2w1:=AK _ _ h2w0
   clear AK
   generalize w0.alloc (.cells (madeCells #[.bool false] n) 4) = w1 at *
   obtain ⟨g6,eqg6⟩ : ∃ x,x = w0.heap.size:=⟨_,rfl⟩
   have glg6 : V.heap.size < g6 ∧ g6 < w1.heap.size:=by omega
   rw [← eqg6] at new1 ⊢
   have geg6:=new1
   clear new1
   refine wpAnyG_all (rs:=[3,9]) (by kernel_rfl) (by simp) (fun j hj=>?_)
   rcases (show j = 3 ∨ j = 9 by simpa using hj) with rfl | rfl
   · skip
     refine wpOp_val (v:=.slice (some ⟨w1.heap.size,0,none⟩) n n) (w':=w1.alloc (.cells (madeCells #[.int .i64 0] n) 3)) rfl rfl (by have mk:=mkk (t:=23) (e:=3) (z:=.int .i64 0) (B:=8) Try.underlying23 (by kernel_rfl) rfl (by decide) hn w1; go_simp) ⟨trivial,?_⟩
     walk_nrm
     obtain ⟨hsw2,kw2,new2,AK⟩:=al_all kw1 (.cells (madeCells #[.int .i64 0] n) 3)
     have h2w2:=AK _ _ h2w1
     have geg6:=AK _ _ geg6
     clear AK
     generalize w1.alloc (.cells (madeCells #[.int .i64 0] n) 3) = w2 at *
     obtain ⟨g3,eqg3⟩ : ∃ x,x = w1.heap.size:=⟨_,rfl⟩
     have glg3 : V.heap.size < g3 ∧ g3 < w2.heap.size:=by omega
     rw [← eqg3] at new2 ⊢
     have geg3:=new2
     clear new2
     refine wpAnyG_all (rs:=[9]) (by kernel_rfl) (by simp) (fun j hj=>?_)
     obtain rfl : j = 9:=by simpa using hj
     refine wpOp_val (v:=.slice (some ⟨w2.heap.size,0,none⟩) n n) (w':=w2.alloc (.cells (madeCells #[.bool false] n) 4)) rfl rfl (by have mk:=mkk (t:=26) (e:=4) (z:=.bool false) (B:=1) Try.underlying26 (by kernel_rfl) rfl (by decide) hn w2; go_simp) ⟨trivial,?_⟩
     walk_nrm
     obtain ⟨hsw3,kw3,new3,AK⟩:=al_all kw2 (.cells (madeCells #[.bool false] n) 4)
     have h2w3:=AK _ _ h2w2
     have geg6:=AK _ _ geg6
     have geg3:=AK _ _ geg3
     clear AK
     generalize w2.alloc (.cells (madeCells #[.bool false] n) 4) = w3 at *
     obtain ⟨g9,eqg9⟩ : ∃ x,x = w2.heap.size:=⟨_,rfl⟩
     have glg9 : V.heap.size < g9 ∧ g9 < w3.heap.size:=by omega
     rw [← eqg9] at new3 ⊢
     have geg9:=new3
     clear new3
     refine wpAnyG_all (rs:=[10]) (by kernel_rfl) (by simp) (fun j hj=>?_)
     obtain rfl : j = 10:=by simpa using hj
     refine wpOp_val (v:=.agg #[.slice la n lc,.slice (some ⟨g3,0,none⟩) n n,.slice (some ⟨g6,0,none⟩) n n,.slice (some ⟨g9,0,none⟩) n n,.slice none 0 0,.slice none 0 0]) (w':=w3) rfl rfl (by go_simp) ⟨trivial,?_⟩
     walk_nrm
     obtain ⟨he,c0,c1,c2,c3,c4,c5,z0,z1,z2,z3,z4,z5⟩:=set6_all (la:=la) (n:=n) (lc:=lc) (ga:=g3) (go:=g6) (gp:=g9) h2w3
     have RES:=new_rs (W:=set6 w3 V.heap.size la n lc g3 g6 g9) (lc:=lc) (la:=la) (acts:=acts) hn rfl kw3 ⟨by omega,by omega,by omega⟩ geg3 geg6 geg9 (fun b hb=>six_off hb) six_size
     refine wpAnyG_all (rs:=[11]) (by kernel_rfl) (by simp) (fun j hj=>?_)
     obtain rfl : j = 11:=by simpa using hj
     refine wpOp_skip (w':=set6 w3 V.heap.size la n lc g3 g6 g9) rfl rfl (by go_simp; try rfl) ⟨trivial,?_⟩
     walk_nrm
     clear c0 c1 c2 c3 c4 c5 z0 z1 z2 z3 z4 z5
     generalize set6 w3 V.heap.size la n lc g3 g6 g9 = W at *
     obtain ⟨d0,d1,d2,d3,d4,d5⟩:=six_read he
     refine wpAnyG_done (by kernel_rfl) (hKK _ _ ?_) _
     go_wp2
     try simp only [Exit.inBlock,Exit.then]
     refine bodyPost_ret (v:=.agg #[.slice la n lc,.slice (some ⟨g3,0,none⟩) n n,.slice (some ⟨g6,0,none⟩) n n,.slice (some ⟨g9,0,none⟩) n n,.slice none 0 0,.slice none 0 0]) ?_ rfl RES
     simp only [results,Try.f75,List.mapM_toArray,List.mapM_cons,List.mapM_nil,Sem.run_bind]
     go_simp
   · skip
     refine wpOp_val (v:=.slice (some ⟨w1.heap.size,0,none⟩) n n) (w':=w1.alloc (.cells (madeCells #[.bool false] n) 4)) rfl rfl (by have mk:=mkk (t:=26) (e:=4) (z:=.bool false) (B:=1) Try.underlying26 (by kernel_rfl) rfl (by decide) hn w1; go_simp) ⟨trivial,?_⟩
     walk_nrm
     obtain ⟨hsw2,kw2,new2,AK⟩:=al_all kw1 (.cells (madeCells #[.bool false] n) 4)
     have h2w2:=AK _ _ h2w1
     have geg6:=AK _ _ geg6
     clear AK
     generalize w1.alloc (.cells (madeCells #[.bool false] n) 4) = w2 at *
     obtain ⟨g9,eqg9⟩ : ∃ x,x = w1.heap.size:=⟨_,rfl⟩
     have glg9 : V.heap.size < g9 ∧ g9 < w2.heap.size:=by omega
     rw [← eqg9] at new2 ⊢
     have geg9:=new2
     clear new2
     refine wpAnyG_all (rs:=[3]) (by kernel_rfl) (by simp) (fun j hj=>?_)
     obtain rfl : j = 3:=by simpa using hj
     refine wpOp_val (v:=.slice (some ⟨w2.heap.size,0,none⟩) n n) (w':=w2.alloc (.cells (madeCells #[.int .i64 0] n) 3)) rfl rfl (by have mk:=mkk (t:=23) (e:=3) (z:=.int .i64 0) (B:=8) Try.underlying23 (by kernel_rfl) rfl (by decide) hn w2; go_simp) ⟨trivial,?_⟩
     walk_nrm
     obtain ⟨hsw3,kw3,new3,AK⟩:=al_all kw2 (.cells (madeCells #[.int .i64 0] n) 3)
     have h2w3:=AK _ _ h2w2
     have geg6:=AK _ _ geg6
     have geg9:=AK _ _ geg9
     clear AK
     generalize w2.alloc (.cells (madeCells #[.int .i64 0] n) 3) = w3 at *
     obtain ⟨g3,eqg3⟩ : ∃ x,x = w2.heap.size:=⟨_,rfl⟩
     have glg3 : V.heap.size < g3 ∧ g3 < w3.heap.size:=by omega
     rw [← eqg3] at new3 ⊢
     have geg3:=new3
     clear new3
     refine wpAnyG_all (rs:=[10]) (by kernel_rfl) (by simp) (fun j hj=>?_)
     obtain rfl : j = 10:=by simpa using hj
     refine wpOp_val (v:=.agg #[.slice la n lc,.slice (some ⟨g3,0,none⟩) n n,.slice (some ⟨g6,0,none⟩) n n,.slice (some ⟨g9,0,none⟩) n n,.slice none 0 0,.slice none 0 0]) (w':=w3) rfl rfl (by go_simp) ⟨trivial,?_⟩
     walk_nrm
     obtain ⟨he,c0,c1,c2,c3,c4,c5,z0,z1,z2,z3,z4,z5⟩:=set6_all (la:=la) (n:=n) (lc:=lc) (ga:=g3) (go:=g6) (gp:=g9) h2w3
     have RES:=new_rs (W:=set6 w3 V.heap.size la n lc g3 g6 g9) (lc:=lc) (la:=la) (acts:=acts) hn rfl kw3 ⟨by omega,by omega,by omega⟩ geg3 geg6 geg9 (fun b hb=>six_off hb) six_size
     refine wpAnyG_all (rs:=[11]) (by kernel_rfl) (by simp) (fun j hj=>?_)
     obtain rfl : j = 11:=by simpa using hj
     refine wpOp_skip (w':=set6 w3 V.heap.size la n lc g3 g6 g9) rfl rfl (by go_simp; try rfl) ⟨trivial,?_⟩
     walk_nrm
     clear c0 c1 c2 c3 c4 c5 z0 z1 z2 z3 z4 z5
     generalize set6 w3 V.heap.size la n lc g3 g6 g9 = W at *
     obtain ⟨d0,d1,d2,d3,d4,d5⟩:=six_read he
     refine wpAnyG_done (by kernel_rfl) (hKK _ _ ?_) _
     go_wp2
     try simp only [Exit.inBlock,Exit.then]
     refine bodyPost_ret (v:=.agg #[.slice la n lc,.slice (some ⟨g3,0,none⟩) n n,.slice (some ⟨g6,0,none⟩) n n,.slice (some ⟨g9,0,none⟩) n n,.slice none 0 0,.slice none 0 0]) ?_ rfl RES
     simp only [results,Try.f75,List.mapM_toArray,List.mapM_cons,List.mapM_nil,Sem.run_bind]
     go_simp
 · skip
   refine wpOp_val (v:=.slice (some ⟨w0.heap.size,0,none⟩) n n) (w':=w0.alloc (.cells (madeCells #[.bool false] n) 4)) rfl rfl (by have mk:=mkk (t:=26) (e:=4) (z:=.bool false) (B:=1) Try.underlying26 (by kernel_rfl) rfl (by decide) hn w0; go_simp) ⟨trivial,?_⟩
   walk_nrm
   obtain ⟨hsw1,kw1,new1,AK⟩:=al_all hk0 (.cells (madeCells #[.bool false] n) 4)
   have h2w1:=AK _ _ h2w0
   clear AK
   generalize w0.alloc (.cells (madeCells #[.bool false] n) 4) = w1 at *
   obtain ⟨g9,eqg9⟩ : ∃ x,x = w0.heap.size:=⟨_,rfl⟩
   have glg9 : V.heap.size < g9 ∧ g9 < w1.heap.size:=by omega
   rw [← eqg9] at new1 ⊢
   have geg9:=new1
   clear new1
   refine wpAnyG_all (rs:=[3,6]) (by kernel_rfl) (by simp) (fun j hj=>?_)
   rcases (show j = 3 ∨ j = 6 by simpa using hj) with rfl | rfl
   · skip
     refine wpOp_val (v:=.slice (some ⟨w1.heap.size,0,none⟩) n n) (w':=w1.alloc (.cells (madeCells #[.int .i64 0] n) 3)) rfl rfl (by have mk:=mkk (t:=23) (e:=3) (z:=.int .i64 0) (B:=8) Try.underlying23 (by kernel_rfl) rfl (by decide) hn w1; go_simp) ⟨trivial,?_⟩
     walk_nrm
     obtain ⟨hsw2,kw2,new2,AK⟩:=al_all kw1 (.cells (madeCells #[.int .i64 0] n) 3)
     have h2w2:=AK _ _ h2w1
     have geg9:=AK _ _ geg9
     clear AK
     generalize w1.alloc (.cells (madeCells #[.int .i64 0] n) 3) = w2 at *
     obtain ⟨g3,eqg3⟩ : ∃ x,x = w1.heap.size:=⟨_,rfl⟩
     have glg3 : V.heap.size < g3 ∧ g3 < w2.heap.size:=by omega
     rw [← eqg3] at new2 ⊢
     have geg3:=new2
     clear new2
     refine wpAnyG_all (rs:=[6]) (by kernel_rfl) (by simp) (fun j hj=>?_)
     obtain rfl : j = 6:=by simpa using hj
     refine wpOp_val (v:=.slice (some ⟨w2.heap.size,0,none⟩) n n) (w':=w2.alloc (.cells (madeCells #[.bool false] n) 4)) rfl rfl (by have mk:=mkk (t:=26) (e:=4) (z:=.bool false) (B:=1) Try.underlying26 (by kernel_rfl) rfl (by decide) hn w2; go_simp) ⟨trivial,?_⟩
     walk_nrm
     obtain ⟨hsw3,kw3,new3,AK⟩:=al_all kw2 (.cells (madeCells #[.bool false] n) 4)
     have h2w3:=AK _ _ h2w2
     have geg9:=AK _ _ geg9
     have geg3:=AK _ _ geg3
     clear AK
     generalize w2.alloc (.cells (madeCells #[.bool false] n) 4) = w3 at *
     obtain ⟨g6,eqg6⟩ : ∃ x,x = w2.heap.size:=⟨_,rfl⟩
     have glg6 : V.heap.size < g6 ∧ g6 < w3.heap.size:=by omega
     rw [← eqg6] at new3 ⊢
     have geg6:=new3
     clear new3
     refine wpAnyG_all (rs:=[10]) (by kernel_rfl) (by simp) (fun j hj=>?_)
     obtain rfl : j = 10:=by simpa using hj
     refine wpOp_val (v:=.agg #[.slice la n lc,.slice (some ⟨g3,0,none⟩) n n,.slice (some ⟨g6,0,none⟩) n n,.slice (some ⟨g9,0,none⟩) n n,.slice none 0 0,.slice none 0 0]) (w':=w3) rfl rfl (by go_simp) ⟨trivial,?_⟩
     walk_nrm
     obtain ⟨he,c0,c1,c2,c3,c4,c5,z0,z1,z2,z3,z4,z5⟩:=set6_all (la:=la) (n:=n) (lc:=lc) (ga:=g3) (go:=g6) (gp:=g9) h2w3
     have RES:=new_rs (W:=set6 w3 V.heap.size la n lc g3 g6 g9) (lc:=lc) (la:=la) (acts:=acts) hn rfl kw3 ⟨by omega,by omega,by omega⟩ geg3 geg6 geg9 (fun b hb=>six_off hb) six_size
     refine wpAnyG_all (rs:=[11]) (by kernel_rfl) (by simp) (fun j hj=>?_)
     obtain rfl : j = 11:=by simpa using hj
     refine wpOp_skip (w':=set6 w3 V.heap.size la n lc g3 g6 g9) rfl rfl (by go_simp; try rfl) ⟨trivial,?_⟩
     walk_nrm
     clear c0 c1 c2 c3 c4 c5 z0 z1 z2 z3 z4 z5
     generalize set6 w3 V.heap.size la n lc g3 g6 g9 = W at *
     obtain ⟨d0,d1,d2,d3,d4,d5⟩:=six_read he
     refine wpAnyG_done (by kernel_rfl) (hKK _ _ ?_) _
     go_wp2
     try simp only [Exit.inBlock,Exit.then]
     refine bodyPost_ret (v:=.agg #[.slice la n lc,.slice (some ⟨g3,0,none⟩) n n,.slice (some ⟨g6,0,none⟩) n n,.slice (some ⟨g9,0,none⟩) n n,.slice none 0 0,.slice none 0 0]) ?_ rfl RES
     simp only [results,Try.f75,List.mapM_toArray,List.mapM_cons,List.mapM_nil,Sem.run_bind]
     go_simp
   · skip
     refine wpOp_val (v:=.slice (some ⟨w1.heap.size,0,none⟩) n n) (w':=w1.alloc (.cells (madeCells #[.bool false] n) 4)) rfl rfl (by have mk:=mkk (t:=26) (e:=4) (z:=.bool false) (B:=1) Try.underlying26 (by kernel_rfl) rfl (by decide) hn w1; go_simp) ⟨trivial,?_⟩
     walk_nrm
     obtain ⟨hsw2,kw2,new2,AK⟩:=al_all kw1 (.cells (madeCells #[.bool false] n) 4)
     have h2w2:=AK _ _ h2w1
     have geg9:=AK _ _ geg9
     clear AK
     generalize w1.alloc (.cells (madeCells #[.bool false] n) 4) = w2 at *
     obtain ⟨g6,eqg6⟩ : ∃ x,x = w1.heap.size:=⟨_,rfl⟩
     have glg6 : V.heap.size < g6 ∧ g6 < w2.heap.size:=by omega
     rw [← eqg6] at new2 ⊢
     have geg6:=new2
     clear new2
     refine wpAnyG_all (rs:=[3]) (by kernel_rfl) (by simp) (fun j hj=>?_)
     obtain rfl : j = 3:=by simpa using hj
     refine wpOp_val (v:=.slice (some ⟨w2.heap.size,0,none⟩) n n) (w':=w2.alloc (.cells (madeCells #[.int .i64 0] n) 3)) rfl rfl (by have mk:=mkk (t:=23) (e:=3) (z:=.int .i64 0) (B:=8) Try.underlying23 (by kernel_rfl) rfl (by decide) hn w2; go_simp) ⟨trivial,?_⟩
     walk_nrm
     obtain ⟨hsw3,kw3,new3,AK⟩:=al_all kw2 (.cells (madeCells #[.int .i64 0] n) 3)
     have h2w3:=AK _ _ h2w2
     have geg9:=AK _ _ geg9
     have geg6:=AK _ _ geg6
     clear AK
     generalize w2.alloc (.cells (madeCells #[.int .i64 0] n) 3) = w3 at *
     obtain ⟨g3,eqg3⟩ : ∃ x,x = w2.heap.size:=⟨_,rfl⟩
     have glg3 : V.heap.size < g3 ∧ g3 < w3.heap.size:=by omega
     rw [← eqg3] at new3 ⊢
     have geg3:=new3
     clear new3
     refine wpAnyG_all (rs:=[10]) (by kernel_rfl) (by simp) (fun j hj=>?_)
     obtain rfl : j = 10:=by simpa using hj
     refine wpOp_val (v:=.agg #[.slice la n lc,.slice (some ⟨g3,0,none⟩) n n,.slice (some ⟨g6,0,none⟩) n n,.slice (some ⟨g9,0,none⟩) n n,.slice none 0 0,.slice none 0 0]) (w':=w3) rfl rfl (by go_simp) ⟨trivial,?_⟩
     walk_nrm
     obtain ⟨he,c0,c1,c2,c3,c4,c5,z0,z1,z2,z3,z4,z5⟩:=set6_all (la:=la) (n:=n) (lc:=lc) (ga:=g3) (go:=g6) (gp:=g9) h2w3
     have RES:=new_rs (W:=set6 w3 V.heap.size la n lc g3 g6 g9) (lc:=lc) (la:=la) (acts:=acts) hn rfl kw3 ⟨by omega,by omega,by omega⟩ geg3 geg6 geg9 (fun b hb=>six_off hb) six_size
     refine wpAnyG_all (rs:=[11]) (by kernel_rfl) (by simp) (fun j hj=>?_)
     obtain rfl : j = 11:=by simpa using hj
     refine wpOp_skip (w':=set6 w3 V.heap.size la n lc g3 g6 g9) rfl rfl (by go_simp; try rfl) ⟨trivial,?_⟩
     walk_nrm
     clear c0 c1 c2 c3 c4 c5 z0 z1 z2 z3 z4 z5
     generalize set6 w3 V.heap.size la n lc g3 g6 g9 = W at *
     obtain ⟨d0,d1,d2,d3,d4,d5⟩:=six_read he
     refine wpAnyG_done (by kernel_rfl) (hKK _ _ ?_) _
     go_wp2
     try simp only [Exit.inBlock,Exit.then]
     refine bodyPost_ret (v:=.agg #[.slice la n lc,.slice (some ⟨g3,0,none⟩) n n,.slice (some ⟨g6,0,none⟩) n n,.slice (some ⟨g9,0,none⟩) n n,.slice none 0 0,.slice none 0 0]) ?_ rfl RES
     simp only [results,Try.f75,List.mapM_toArray,List.mapM_cons,List.mapM_nil,Sem.run_bind]
     go_simp
end Go.Proofs.Ytibcdikfbhmheaa
