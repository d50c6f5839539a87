import Derived.Test.YtibcdikfbhmheaaB13
import Derived.Test.YtibcdikfbhmheaaB08
import Derived.OrdersHeld
import Derived.Test.YtibcdikfbhmheaaB07
set_option linter.unusedSimpArgs false
set_option linter.unusedVariables false
set_option maxRecDepth 100000
set_option maxHeartbeats 4000000
namespace Go.Proofs.Ytibcdikfbhmheaa
open Go Go.Conc Go.Proofs
open Go.ConcN (sumTo upd sumTo_upd upd_ne upd_same)
section
variable {C : Cw} {E : Env} {U : Usr} {Q : Nat -> Prop} {σ : U.S} {xs : List Nat} {ow : Nat -> Nat} {role : Nat -> Role} {N : Nat} {V VQ : World} {ov : Value} {Post : Value -> World -> Prop} {bQ : Frame} {aQ : Act} {opsQ : Array Oper} {iQ : Nat} {restQ : List Nat} {kQ : List Item} {cs0 : List Frame}
def rnds (U : Usr) (n : Nat) : Nat -> U.S × List Nat -> U.S × List Nat
 | 0,x=>x
 | m + 1,x=>if (rnd U n x).2.length = x.2.length then rnd U n x else rnds U n m (rnd U n x)
theorem stp_len (U : Usr) (x : U.S × List Nat) (i : Nat) : x.2.length <= (stp U x i).2.length /\ (stp U x i).2.length <= x.2.length + 1:=by
 unfold stp
 split
 . simp
 . exact ⟨Nat.le_refl _,Nat.le_succ _⟩
theorem fold_len (U : Usr) : ∀ (l : List Nat) (x : U.S × List Nat),x.2.length <= (l.foldl (stp U) x).2.length /\ (l.foldl (stp U) x).2.length <= x.2.length + l.length
 | [],x=>⟨Nat.le_refl _,Nat.le_refl _⟩
 | i :: l,x=>by
   have h1:=stp_len U x i
   have h2:=fold_len U l (stp U x i)
   rw [List.foldl_cons,List.length_cons]
   omega
theorem row_slice {w : World} {base : Nat} {e : TypeId} {size : Nat} {v : Value} {n : Nat} {xs : List Value} (h : w.ownsRow base e size v n xs) : ∃ b c,v = .slice b n c:=by
 rcases h.2 with ⟨rfl,rfl⟩ | ⟨g,cap,cur,rfl,_⟩
 . exact ⟨_,_,rfl⟩
 . exact ⟨_,_,rfl⟩
theorem outer_loop (hO : CwOk E C) (hU : UOk E C U) (hn64 : C.n <= 64) (hQ : ∀ b,Q b -> b < VQ.heap.size) (L : LsAt C Q VQ) {R : Nat} (hR : R <= 1048576) (Kend : ∀ T σ' xs' ow' role' N' V' ov',Ms C U Q VQ σ' xs' ow' role' N' V' ov' -> (σ',xs') = rnds U C.n R (σ,xs) -> T.size = 78 -> T[7]? = some ov' -> To Try.prog Post E (Las Try.prog E 3) 0 0 0 N' role' V' (G ((base 78).at ⟨T,[]⟩ [.code Tz2]) (bQ.at aQ (.inRegion opsQ (iQ :: restQ) :: kQ) :: cs0))) :
   ∀ (m r : Nat) T σQ xsQ ow role N V ov,m + r = R -> Ms C U Q VQ σQ xsQ ow role N V ov -> rnds U C.n m (σQ,xsQ) = rnds U C.n R (σ,xs) -> xsQ.length + 64 * m < 500000000000 -> T.size = 78 -> T[0]? = some (.pointer (some ⟨C.cb,0,none⟩)) -> T[7]? = some ov -> T[50]? = some (.int .i64 (R : Int)) -> T[51]? = some (.int .i64 (r : Int)) ->
     To Try.prog Post E (Las Try.prog E 3) 0 0 0 N role V (G ((base 78).at ⟨T,[]⟩ [.code T2,.inLoop T2,.inBlock 2,.code Tz2]) (bQ.at aQ (.inRegion opsQ (iQ :: restQ) :: kQ) :: cs0)):=by
 intro m
 induction m with
 | zero =>
   intro r T σQ xsQ ow role N V ov hmk M hf hx h78 t0 t7 t50 t51
   obtain rfl : r = R:=by omega
   have hn:=M.sea.nrm
   have q1 : decide ((r : Int) < (r : Int)) = false:=decide_eq_false (by omega)
   have Kend':=fun T h h'=>Kend T σQ xsQ ow role N V ov M (by rw [← hf]; rfl) h h'
   clear Kend hmk
   obtain ⟨v0,v1,v2,v3,v4,v5,v6,v7,v8,v9,v10,v11,v12,v13,v14,v15,v16,v17,v18,v19,v20,v21,v22,v23,v24,v25,v26,v27,v28,v29,v30,v31,v32,v33,v34,v35,v36,v37,v38,v39,v40,v41,v42,v43,v44,v45,v46,v47,v48,v49,v50,v51,v52,v53,v54,v55,v56,v57,v58,v59,v60,v61,v62,v63,v64,v65,v66,v67,v68,v69,v70,v71,v72,v73,v74,v75,v76,v77,rfl⟩:=array78 T h78
   simp only [List.getElem?_toArray,List.getElem?_cons_zero,List.getElem?_cons_succ,Option.some.injEq] at t0 t7 t50 t51
   subst t0 t7 t50 t51
   refine (fun (h : ∀ X,X = T2 -> To Try.prog Post E (Las Try.prog E 3) 0 0 0 N role V (G ((base 78).at ⟨_,[]⟩ [.code X,.inLoop T2,.inBlock 2,.code Tz2]) (bQ.at aQ (.inRegion opsQ (iQ :: restQ) :: kQ) :: cs0)))=>h T2 rfl) ?_
   intro X hX
   simp only [T2,Tz,B78,sqa,sqb,blk,lop,Try.f78,Option.getD_some] at hX
   subst hX
   refine wB (L:=Lone) (J:=fun g=>To Try.prog Post E (Las Try.prog E 3) 0 0 0 N role V g) (mu_to hO.ok) (muv_to hO.ok hn) fun kk hkk=>?_
   refine Kend' _ ?_ ?_
   . simp
   . rfl
 | succ m ih =>
   intro r T σQ xsQ ow role N V ov hmk M hf hx h78 t0 t7 t50 t51
   have hk : r < R:=by omega
   have hn:=M.sea.nrm
   obtain ⟨ob,oc,rfl⟩:=row_slice M.row
   obtain ⟨lb,hl,hlb⟩:=L.l
   have q1 : decide ((r : Int) < (R : Int)) = true:=decide_eq_true (by omega)
   have e0 : ∀ τ,(re V τ 0).cell? ⟨C.cb,0,none⟩ = some (.slice lb C.n C.cap):=fun τ=>by
     rw [re_cell,← hl]
     exact cell_of M.sea.cw.crew (by simp)
   have w4 : IntKind.i64.wrap ((r : Int) + 1) = ((r + 1 : Nat) : Int):=by rw [IntKind.wrap_i64]; omega
   have hrl:=fold_len U (List.range C.n) (σQ,xsQ)
   rw [List.length_range] at hrl
   obtain ⟨v0,v1,v2,v3,v4,v5,v6,v7,v8,v9,v10,v11,v12,v13,v14,v15,v16,v17,v18,v19,v20,v21,v22,v23,v24,v25,v26,v27,v28,v29,v30,v31,v32,v33,v34,v35,v36,v37,v38,v39,v40,v41,v42,v43,v44,v45,v46,v47,v48,v49,v50,v51,v52,v53,v54,v55,v56,v57,v58,v59,v60,v61,v62,v63,v64,v65,v66,v67,v68,v69,v70,v71,v72,v73,v74,v75,v76,v77,rfl⟩:=array78 T h78
   simp only [List.getElem?_toArray,List.getElem?_cons_zero,List.getElem?_cons_succ,Option.some.injEq] at t0 t7 t50 t51
   subst t0 t7 t50 t51
   clear h78
   refine (fun (h : ∀ X,X = T2 -> To Try.prog Post E (Las Try.prog E 3) 0 0 0 N role V (G ((base 78).at ⟨_,[]⟩ [.code X,.inLoop T2,.inBlock 2,.code Tz2]) (bQ.at aQ (.inRegion opsQ (iQ :: restQ) :: kQ) :: cs0)))=>h T2 rfl) ?_
   intro X hX
   simp only [T2,Tz,B78,sqa,sqb,blk,lop,Try.f78,Option.getD_some] at hX
   subst hX
   obtain ⟨K,hK,hV,key,yek⟩:=kKV (L:=Lone) (J:=fun g=>To Try.prog Post E (Las Try.prog E 3) 0 0 0 N role V g) (mu_to hO.ok) (muv_to hO.ok hn)
   refine key _ ?_
   refine wA fun kk hkk=>?_
   refine mu_loop hK ?_
   refine yek _ ?_
   clear hK hV key yek K
   clear e0
   refine (fun (h : ∀ Y,T3 = Y -> To Try.prog Post E (Las Try.prog E 3) 0 0 0 N role V (G ((base 78).at _ (.code Y :: .inLoop Y :: .inBlock 4 :: _)) (bQ.at aQ (.inRegion opsQ (iQ :: restQ) :: kQ) :: cs0)))=>h _ (by simp only [T3,T2,Tz,B78,sqa,sqb,blk,lop,Try.f78,Option.getD_some])) ?_
   intro Y hY
   subst hY
   refine inner_loop (was:=xsQ.length) (R:=R) (r:=r) (σ:=σQ) (xs:=xsQ) hO hU hn64 hQ L (fun T' σY xsY owY roleY NX VX ovY MY hrQ ⟨h78,t0,t7,t12,t50,t51⟩=>?_) C.n 0 _ σQ xsQ ow role N V _ (by omega) M (by rw [List.drop_zero]; rfl) (by omega) ⟨by simp,rfl,rfl,rfl,rfl,rfl⟩ (by rw [hl]; rfl) rfl rfl
   have hnY:=MY.sea.nrm
   obtain ⟨obQ,ocQ,rfl⟩:=row_slice MY.row
   have hrlQ : xsQ.length <= xsY.length /\ xsY.length <= xsQ.length + C.n:=by
     have : xsY = (rnd U C.n (σQ,xsQ)).2:=by rw [← hrQ]
     rw [this]; exact hrl
   obtain ⟨u0,u1,u2,u3,u4,u5,u6,u7,u8,u9,u10,u11,u12,u13,u14,u15,u16,u17,u18,u19,u20,u21,u22,u23,u24,u25,u26,u27,u28,u29,u30,u31,u32,u33,u34,u35,u36,u37,u38,u39,u40,u41,u42,u43,u44,u45,u46,u47,u48,u49,u50,u51,u52,u53,u54,u55,u56,u57,u58,u59,u60,u61,u62,u63,u64,u65,u66,u67,u68,u69,u70,u71,u72,u73,u74,u75,u76,u77,rfl⟩:=array78 T' h78
   simp only [List.getElem?_toArray,List.getElem?_cons_zero,List.getElem?_cons_succ,Option.some.injEq] at t0 t7 t12 t50 t51
   subst t0 t7 t12 t50 t51
   clear h78
   by_cases hsame : xsY.length = xsQ.length
   . have q2 : ((xsY.length : Int) == (xsQ.length : Int)) = true:=by simp [hsame]
     have Kend':=fun T h h'=>Kend T σY xsY owY roleY NX VX _ MY (by rw [← hf]; unfold rnds; rw [← hrQ,if_pos hsame]) h h'
     clear Kend ih
     refine wB (L:=Lone) (J:=fun g=>To Try.prog Post E (Las Try.prog E 3) 0 0 0 NX roleY VX g) (mu_to hO.ok) (muv_to hO.ok hnY) fun kk hkk=>?_
     refine Kend' _ ?_ ?_
     . simp
     . rfl
   . have q2 : ((xsY.length : Int) == (xsQ.length : Int)) = false:=by simp; omega
     have hf' : rnds U C.n m (σY,xsY) = rnds U C.n R (σ,xs):=by
       rw [← hf]
       conv=>rhs; unfold rnds
       rw [← hrQ,if_neg hsame]
     obtain ⟨K,hK,hV,key,yek⟩:=kKV (L:=Lone) (J:=fun g=>To Try.prog Post E (Las Try.prog E 3) 0 0 0 NX roleY VX g) (mu_to hO.ok) (muv_to hO.ok hnY)
     refine key _ ?_
     refine wA fun kk hkk=>?_
     refine mu_inLoop hK ?_
     refine yek _ ?_
     clear hK hV key yek K
     refine (fun (h : ∀ Y,T2 = Y -> To Try.prog Post E (Las Try.prog E 3) 0 0 0 NX roleY VX (G ((base 78).at _ [.code Y,.inLoop Y,.inBlock 2,.code Tz2]) (bQ.at aQ (.inRegion opsQ (iQ :: restQ) :: kQ) :: cs0)))=>h _ (by simp only [T2,Tz,B78,sqa,sqb,blk,lop,Try.f78,Option.getD_some])) ?_
     intro Y hY
     subst hY
     exact ih (r + 1) _ σY xsY owY roleY NX VX _ (by omega) MY hf' (by omega) (by simp) rfl rfl rfl rfl
theorem turns_go (hO : CwOk E C) (hU : UOk E C U) (hn64 : C.n <= 64) (hQ : ∀ b,Q b -> b < VQ.heap.size) (L : LsAt C Q VQ) {ps : List Int} {pv : Value} (hp : Rdr U Q VQ pv ps) (hlen : ps.length < 100000000) {rounds : Int} {R : Nat} (hR : (R : Int) = if 1048576 < (if rounds < 0 then 0 else rounds) then 1048576 else if rounds < 0 then 0 else rounds)
   (M : Ms C U Q VQ σ [] ow role N V (.slice none 0 0))
   (K0 : ∀ σ' xs' ow' role' N' V' ov',Ms C U Q VQ σ' xs' ow' role' N' V' ov' -> (σ',xs') = rnds U C.n R (ps.foldl (pk U C.n) (σ,[])) -> To Try.prog Post E (Las Try.prog E 3) 0 0 0 N' role' V' (G (bQ.at (aQ.put ((opsQ[iQ]?).bind (·.dst)) ov') (.inRegion opsQ restQ :: kQ)) cs0)) :
   To Try.prog Post E (Las Try.prog E 3) 0 0 0 N role V (G (Frame.enter Try.prog 78 #[.pointer (some ⟨C.cb,0,none⟩),pv,.int .i64 rounds] .normal) (bQ.at aQ (.inRegion opsQ (iQ :: restQ) :: kQ) :: cs0)):=by
 have hn:=M.sea.nrm
 obtain ⟨lb,hl,hlb⟩:=L.l
 obtain ⟨pb,pc,hpv,hpb⟩:=hp.v
 have e0 : ∀ τ,(re V τ 0).cell? ⟨C.cb,0,none⟩ = some (.slice lb C.n C.cap):=fun τ=>by
   rw [re_cell,← hl]
   exact cell_of M.sea.cw.crew (by simp)
 have hfl : ∀ (l : List Int) (x : U.S × List Nat),(l.foldl (pk U C.n) x).2.length <= x.2.length + l.length:=fun l=>by
   induction l with
   | nil=>intro x; exact Nat.le_refl _
   | cons y l ih =>
     intro x
     have h1:=ih (pk U C.n x y)
     have h2 : (pk U C.n x y).2.length <= x.2.length + 1:=by
       unfold pk
       split
       . omega
       . exact (stp_len U x _).2
     rw [List.foldl_cons,List.length_cons]
     omega
 obtain ⟨A,hA⟩ : ∃ A : Int,A = if rounds < 0 then 0 else rounds:=⟨_,rfl⟩
 have hA1 : (if rounds < 0 then 0 else rounds) = A:=hA.symm
 have hA2 : (if 1048576 < A then 1048576 else A) = (R : Int):=by rw [hA,hR]
 have hR2 : R <= 1048576:=by
   rw [← hA] at hR
   split at hR <;> omega
 clear hA hR
 have hpl:=picks_loop (Post:=Post) (bQ:=bQ) (aQ:=aQ) (opsQ:=opsQ) (iQ:=iQ) (restQ:=restQ) (kQ:=kQ) (cs0:=cs0) (σ:=σ) (xs:=[]) hO hU hn64 hQ L hp hlen (rounds:=rounds)
 subst hpv
 rw [enter_at (P:=Try.prog) _ Try.func78 rfl]
 simp only [Try.f78]
 walk_nrm
 obtain ⟨K,hK,hV,key,yek⟩:=kKV (L:=Lone) (J:=fun g=>To Try.prog Post E (Las Try.prog E 3) 0 0 0 N role V g) (mu_to hO.ok) (muv_to hO.ok hn)
 refine key _ ?_
 refine wA fun kk hkk=>?_
 refine mu_loop hK ?_
 refine yek _ ?_
 clear hK hV key yek K
 clear e0
 refine (fun (h : ∀ Y Z,T1 = Y -> Tz = Z -> To Try.prog Post E (Las Try.prog E 3) 0 0 0 N role V (G ((base 78).at _ [.code Y,.inLoop Y,.inBlock 0,.code Z]) (bQ.at aQ (.inRegion opsQ (iQ :: restQ) :: kQ) :: cs0)))=>h _ _ (by simp only [T1,B78,sqa,sqb,blk,lop,Try.f78,Option.getD_some]) (by simp only [Tz,B78,sqa,sqb,blk,lop,Try.f78,Option.getD_some])) ?_
 intro Y Z hY hZ
 subst hY hZ
 refine hpl (fun T σQ xsQ owQ roleQ NY VY ovQ MQ h₁ ⟨h78,t0,t2,t7,t8⟩=>?_) ps.length 0 _ σ [] ow role N V _ (by omega) M (by rw [List.drop_zero]) (by simp; omega) ⟨by simp,rfl,rfl,rfl,rfl⟩ rfl rfl rfl
 clear hpl
 have hnQ:=MQ.sea.nrm
 have hx1 : xsQ.length <= ps.length:=by
   have:=hfl ps (σ,[])
   rw [← h₁] at this
   simpa using this
 have hol:=outer_loop (Post:=Post) (bQ:=bQ) (aQ:=aQ) (opsQ:=opsQ) (iQ:=iQ) (restQ:=restQ) (kQ:=kQ) (cs0:=cs0) (σ:=σQ) (xs:=xsQ) hO hU hn64 hQ L hR2
 obtain ⟨v0,v1,v2,v3,v4,v5,v6,v7,v8,v9,v10,v11,v12,v13,v14,v15,v16,v17,v18,v19,v20,v21,v22,v23,v24,v25,v26,v27,v28,v29,v30,v31,v32,v33,v34,v35,v36,v37,v38,v39,v40,v41,v42,v43,v44,v45,v46,v47,v48,v49,v50,v51,v52,v53,v54,v55,v56,v57,v58,v59,v60,v61,v62,v63,v64,v65,v66,v67,v68,v69,v70,v71,v72,v73,v74,v75,v76,v77,rfl⟩:=array78 T h78
 simp only [List.getElem?_toArray,List.getElem?_cons_zero,List.getElem?_cons_succ,Option.some.injEq] at t0 t2 t7 t8
 subst t0 t2 t7 t8
 clear h78
 refine (fun (h : ∀ X,X = Tz -> To Try.prog Post E (Las Try.prog E 3) 0 0 0 NY roleQ VY (G ((base 78).at ⟨_,[]⟩ [.code X]) (bQ.at aQ (.inRegion opsQ (iQ :: restQ) :: kQ) :: cs0)))=>h Tz rfl) ?_
 intro X hX
 simp only [Tz,B78,sqa,sqb,blk,lop,Try.f78,Option.getD_some] at hX
 subst hX
 obtain ⟨K,hK,hV,key,yek⟩:=kKV (L:=Lone) (J:=fun g=>To Try.prog Post E (Las Try.prog E 3) 0 0 0 NY roleQ VY g) (mu_to hO.ok) (muv_to hO.ok hnQ)
 refine key _ ?_
 refine wA fun kk hkk=>?_
 refine mu_loop hK ?_
 refine yek _ ?_
 clear hK hV key yek K
 refine (fun (h : ∀ Y Z,T2 = Y -> Tz2 = Z -> To Try.prog Post E (Las Try.prog E 3) 0 0 0 NY roleQ VY (G ((base 78).at _ [.code Y,.inLoop Y,.inBlock 2,.code Z]) (bQ.at aQ (.inRegion opsQ (iQ :: restQ) :: kQ) :: cs0)))=>h _ _ (by simp only [T2,Tz,B78,sqa,sqb,blk,lop,Try.f78,Option.getD_some]) (by simp only [Tz2,Tz,B78,sqa,sqb,blk,lop,Try.f78,Option.getD_some])) ?_
 intro Y Z hY hZ
 subst hY hZ
 refine hol (fun T σY xsY owY roleY NX VX ovY MY h₂ h78 t7=>?_) R 0 _ σQ xsQ owQ roleQ NY VY _ (by omega) MQ rfl (by omega) (by simp) rfl rfl rfl rfl
 clear hol
 have hnY:=MY.sea.nrm
 obtain ⟨v0,v1,v2,v3,v4,v5,v6,v7,v8,v9,v10,v11,v12,v13,v14,v15,v16,v17,v18,v19,v20,v21,v22,v23,v24,v25,v26,v27,v28,v29,v30,v31,v32,v33,v34,v35,v36,v37,v38,v39,v40,v41,v42,v43,v44,v45,v46,v47,v48,v49,v50,v51,v52,v53,v54,v55,v56,v57,v58,v59,v60,v61,v62,v63,v64,v65,v66,v67,v68,v69,v70,v71,v72,v73,v74,v75,v76,v77,rfl⟩:=array78 T h78
 simp only [List.getElem?_toArray,List.getElem?_cons_zero,List.getElem?_cons_succ,Option.some.injEq] at t7
 subst t7
 clear h78
 refine (fun (h : ∀ X,X = Tz2 -> To Try.prog Post E (Las Try.prog E 3) 0 0 0 NX roleY VX (G ((base 78).at ⟨_,[]⟩ [.code X]) (bQ.at aQ (.inRegion opsQ (iQ :: restQ) :: kQ) :: cs0)))=>h Tz2 rfl) ?_
 intro X hX
 simp only [Tz2,Tz,B78,sqa,sqb,blk,lop,Try.f78,Option.getD_some] at hX
 subst hX
 obtain ⟨K,hK,hV,key,yek⟩:=kKV (L:=Lone) (J:=fun g=>To Try.prog Post E (Las Try.prog E 3) 0 0 0 NX roleY VX g) (mu_to hO.ok) (muv_to hO.ok hnY)
 refine key _ ?_
 refine wA fun kk hkk=>?_
 refine mu_leave1 hK rfl rfl Try.func78 rfl ?_
 walk_nrm
 refine yek _ ?_
 exact K0 σY xsY owY roleY NX VX _ MY (by rw [h₂,h₁])
end
def capOf : Value -> Nat | .slice _ _ c=>c | _=>0
def cwOf (fs : List Value) (lv : Value) (cb bk : Nat) (tb ch : Nat -> Nat) : Cw:={ n:=fs.length,l:=lv,cb:=cb,bk:=bk,lb:=lv.ownBlock.getD 0,cap:=capOf lv,tb:=tb,ch:=ch,f:=fun i=>fs.getD i .nilFunc }
def Fixed (C : Cw) (a : Addr) : Prop:=a.spot = none /\ ((a.block = C.cb /\ a.off = 1) ∨ ∃ i,i < C.n /\ a.block = C.tb i /\ a.off < 4)
open Classical in
noncomputable def envOf (Z : Cuts) (V : World) (C : Cw) : Env:={ Z:=begZ Z C.cb,Kc:=fun a=>if Fixed C a then V.cell? a else none,st:=⟨C.cb,3,none⟩,sm:=⟨C.cb,4,none⟩ }
open Classical in
noncomputable def owOf (C : Cw) (own0 : Nat -> Prop) (sz : Nat) (b : Nat) : Nat:=if b = C.cb ∨ ∃ i,i < C.n /\ b = C.tb i then 1 else if own0 b then 3 else if b < sz then 2 else 0
section
variable {ZQ Z : Cuts} {VQ V : World} {fs : List Value} {lv : Value} {cb bk : Nat} {tb ch : Nat -> Nat} {Post : Value -> World -> Prop}
theorem frz_size (V : World) (cb : Nat) : (frz V cb).heap.size = V.heap.size:=by simp [frz]
theorem frz_get (V : World) {cb b : Nat} (h : b ≠ cb) : (frz V cb).heap[b]? = V.heap[b]?:=by
 unfold frz
 simp only
 rw [Array.getElem?_modify,if_neg (fun e=>h e.symm)]
theorem frz_norm (V : World) (cb : Nat) (h : norm V = V) : norm (frz V cb) = frz V cb:=by
 have : norm (frz V cb) = frz (norm V) cb:=rfl
 rw [this,h]
theorem Mst.tb_lt (M : Mst ZQ VQ fs cb bk fs.length tb ch Z V lv) {i j : Nat} (h : i < j) (hj : j < fs.length) : tb i < tb j:=by
 have:=M.inc i j h hj
 have:=M.ord j hj
 omega
theorem Mst.ok (M : Mst ZQ VQ fs cb bk fs.length tb ch Z V lv) : CwOk (envOf Z V (cwOf fs lv cb bk tb ch)) (cwOf fs lv cb bk tb ch):=by
 have hlo:=M.lo
 have hz : ∀ b,b ≠ cb -> begZ Z cb b = Z b:=fun b hb=>by unfold begZ; rw [if_neg hb]
 have hzt : ∀ i,i < fs.length -> begZ Z cb (tb i) = some (5,0,4):=fun i hi=>by rw [hz _ (by have:=M.ord i hi; omega)]; exact M.ztb i hi
 have hzc : begZ Z cb cb = some (3,1,2):=by unfold begZ; rw [if_pos rfl]
 have hkc : ∀ {a : Addr} {v : Value},Fixed (cwOf fs lv cb bk tb ch) a -> V.cell? a = some v -> (envOf Z V (cwOf fs lv cb bk tb ch)).Kc a = some v:=fun hf hv=>by
   unfold envOf
   simp only [if_pos hf]
   exact hv
 have hth : ∀ i,i < fs.length -> ∀ k v,k < 4 -> (#[Value.int .i64 (i : Int),.pointer (some ⟨cb,0,none⟩),fs.getD i .nilFunc,.chan (some (ch i)),.int .i64 (st0 fs i)] : Array Value)[k]? = some v -> (envOf Z V (cwOf fs lv cb bk tb ch)).Kc ⟨tb i,k,none⟩ = some v:=fun i hi k v hk hv=>hkc ⟨rfl,.inr ⟨i,hi,rfl,hk⟩⟩ (cell_of (M.thr i hi) hv)
 refine ⟨⟨fun a v hv=>?_,⟨rfl,2,1,2,hzc,Nat.le_refl _,by simp [envOf]⟩,⟨rfl,rfl,by simp [envOf],2,1,2,hzc,by simp [envOf],by simp [envOf]⟩⟩,hzc,by rw [← M.zbk]; exact hz bk (by omega),hzt,fun i hi=>by rw [← M.zch i hi]; exact hz _ (by have:=M.ord i hi; simp only [cwOf] at hi ⊢; omega),hkc ⟨rfl,.inl ⟨rfl,rfl⟩⟩ (cell_of M.crew rfl),fun i hi=>hth i hi 0 _ (by omega) rfl,fun i hi=>hth i hi 1 _ (by omega) rfl,fun i hi=>hth i hi 2 _ (by omega) rfl,fun i hi=>hth i hi 3 _ (by omega) rfl,rfl,rfl,fun i j hi hj e=>?_,fun i j hi hj e=>?_,fun i hi e=>?_⟩
 . have hf : Fixed (cwOf fs lv cb bk tb ch) a:=by
     by_cases h : Fixed (cwOf fs lv cb bk tb ch) a
     . exact h
     . exfalso
       have h1 : (envOf Z V (cwOf fs lv cb bk tb ch)).Kc a = none:=by
         unfold envOf
         simp only [if_neg h]
       rw [h1] at hv
       cases hv
   refine ⟨hf.1,?_⟩
   rcases hf.2 with ⟨h1,h2⟩ | ⟨i,hi,h1,h2⟩
   . exact ⟨3,1,2,by rw [h1]; exact hzc,by omega,by omega,by omega⟩
   . exact ⟨5,0,4,by rw [h1]; exact hzt i hi,by omega,by omega,by omega⟩
 . rcases Nat.lt_trichotomy i j with h | h | h
   . have:=M.tb_lt h hj; simp only [cwOf] at e; omega
   . exact h
   . have:=M.tb_lt h hi; simp only [cwOf] at e; omega
 . rcases Nat.lt_trichotomy i j with h | h | h
   . have:=M.inc _ _ h hj; have:=M.ord i hi; simp only [cwOf] at e; omega
   . exact h
   . have:=M.inc _ _ h hi; have:=M.ord j hj; simp only [cwOf] at e; omega
 . have:=M.ord i hi; simp only [cwOf] at e; omega
theorem Mst.cwAt (M : Mst ZQ VQ fs cb bk fs.length tb ch Z V lv) {st : Nat -> Int} (hst : ∀ i,i < fs.length -> st i = st0 fs i) : CwAt (cwOf fs lv cb bk tb ch) false st (frz V cb):=by
 refine ⟨?_,fun i hi=>?_⟩
 . show (frz V cb).heap[cb]? = _
   unfold frz
   simp only
   rw [Array.getElem?_modify,if_pos rfl,M.crew]
   rfl
 . show (frz V cb).heap[tb i]? = _
   rw [frz_get V (by have:=M.ord i hi; omega),M.thr i hi,hst i hi]
   rfl
theorem Mst.lsAt (M : Mst ZQ VQ fs cb bk fs.length tb ch Z V lv) (own0 : Nat -> Prop) (hown : ∀ b,own0 b -> b < VQ.heap.size) : LsAt (cwOf fs lv cb bk tb ch) (fun b=>owOf (cwOf fs lv cb bk tb ch) own0 V.heap.size b = 2) (frz V cb):=by
 obtain ⟨h1,h2⟩:=M.row
 rcases h2 with ⟨rfl,h3⟩ | ⟨g,cap,cur,rfl,h4,h5,h6,h7,h8,h9⟩
 . exact ⟨⟨none,by simp [cwOf,capOf,h3],fun h=>absurd h (by simp only [cwOf]; omega)⟩,fun h=>absurd h (by simp only [cwOf]; omega),fun i hi=>absurd hi (by simp only [cwOf]; omega)⟩
 . have hg:=M.rown g rfl
   have hgs : g < V.heap.size:=(Array.getElem?_eq_some_iff.1 h5).1
   refine ⟨⟨_,rfl,fun _=>rfl⟩,fun h=>?_,fun i hi=>?_⟩
   . show owOf _ _ _ g = 2
     unfold owOf
     rw [if_neg,if_neg (fun h=>by have:=hown _ h; omega),if_pos hgs]
     rintro (e | ⟨i,hi,e⟩)
     . exact hg.2.1 e
     . exact (hg.2.2.2 i hi).1 e
   . show (frz V cb).cell? ⟨g,i,none⟩ = some (.pointer (some ⟨tb i,0,none⟩))
     have hi' : i < fs.length:=hi
     refine cell_of (by rw [frz_get V hg.2.1]; exact h5) ?_
     have hcur : cur.toList[i]? = some (.pointer (some ⟨tb i,0,none⟩)):=by
       have : (cur.toList.take (fs.length * 1))[i]? = some (.pointer (some ⟨tb i,0,none⟩)):=by
         rw [h9]
         simp [tps,hi']
       rw [List.getElem?_take] at this
       simpa [hi'] using this
     simpa using hcur
theorem Mst.sea (M : Mst ZQ VQ fs cb bk fs.length tb ch Z V lv) {own0 : Nat -> Prop} (hown : ∀ b,own0 b -> b < VQ.heap.size) {U : Usr} {σ : U.S} {E : Env} (hU : UOk E (cwOf fs lv cb bk tb ch) U) (hst : ∀ i,i < fs.length -> U.st σ i = st0 fs i) (hinv : U.inv σ own0 VQ) {N : Nat} (hN : 0 < N) :
   Sea (cwOf fs lv cb bk tb ch) U σ (owOf (cwOf fs lv cb bk tb ch) own0 V.heap.size) role0 N (frz V cb) false:=by
 have hlo:=M.lo
 have hV : VQ.heap.size <= V.heap.size:=by omega
 have hst' : ∀ i,i < fs.length -> U.st σ i = 0 ∨ U.st σ i = 3:=fun i hi=>by
   rw [hst i hi]; unfold st0; split
   . exact .inr rfl
   . exact .inl rfl
 have h3 : ∀ b,owOf (cwOf fs lv cb bk tb ch) own0 V.heap.size b = 3 ↔ own0 b:=fun b=>by
   unfold owOf
   constructor
   . intro h
     split at h
     . cases h
     . split at h
       . assumption
       . split at h <;> cases h
   . intro h
     have hb:=hown b h
     rw [if_neg,if_pos h]
     rintro (e | ⟨i,hi,e⟩)
     . simp only [cwOf] at e; omega
     . have:=M.ord i hi; simp only [cwOf] at e; omega
 have e3 : (fun b=>owOf (cwOf fs lv cb bk tb ch) own0 V.heap.size b = 3) = own0:=funext fun b=>propext (h3 b)
 have hnoS : ∀ i,i < fs.length -> ¬ Standing U σ i:=fun i hi h=>by
   rcases hst' i hi with e | e <;> rcases h with h | h <;> rw [e] at h <;> cases h
 refine ⟨M.cwAt hst,?_,frz_norm V cb M.nrm,hN,rfl,fun b hb=>?_,?_,fun i hi=>?_,⟨fun i hi h=>absurd h (hnoS i hi),fun x c z r hx hr=>?_,fun x x' c z z' r r' hx _ hr _=>?_⟩,?_⟩
 . rw [e3]
   refine hU.frame σ own0 VQ _ hinv (fun b hb=>?_) (by rw [frz_size]; exact hV)
   have hb':=hown b hb
   rw [frz_get V (by omega)]
   exact M.old b hb'
 . rw [frz_size]
   unfold owOf at hb
   split at hb
   . rename_i h
     rcases h with e | ⟨i,hi,e⟩
     . simp only [cwOf] at e; omega
     . have:=M.ord i hi; simp only [cwOf] at e; omega
   . split at hb
     . rename_i h; have:=hown b h; omega
     . split at hb
       . assumption
       . exact absurd rfl hb
 . unfold owOf; rw [if_pos (.inl rfl)]
 . unfold owOf; rw [if_pos (.inr ⟨i,hi,rfl⟩)]
 . unfold role0 at hr; rw [if_neg hx] at hr; cases hr
 . unfold role0 at hr; rw [if_neg hx] at hr; cases hr
 . have h0 : sumTo N (counts role0) = 0:=counts0 N
   rw [h0]
   have : ∀ n,sumTo n (fresh U σ) <= n:=fun n=>by
     induction n with
     | zero=>exact Nat.le_refl _
     | succ n ih =>
       show sumTo n _ + fresh U σ n <= n + 1
       have : fresh U σ n <= 1:=by unfold fresh; split <;> omega
       omega
   have:=this (cwOf fs lv cb bk tb ch).n
   omega
theorem Mst.ms (M : Mst ZQ VQ fs cb bk fs.length tb ch Z V lv) {own0 : Nat -> Prop} (hown : ∀ b,own0 b -> b < VQ.heap.size) {U : Usr} {σ : U.S} {E : Env} (hU : UOk E (cwOf fs lv cb bk tb ch) U) (hst : ∀ i,i < fs.length -> U.st σ i = st0 fs i) (hinv : U.inv σ own0 VQ) {N : Nat} (hN : 0 < N) :
   Ms (cwOf fs lv cb bk tb ch) U (fun b=>owOf (cwOf fs lv cb bk tb ch) own0 V.heap.size b = 2) (frz V cb) σ [] (owOf (cwOf fs lv cb bk tb ch) own0 V.heap.size) role0 N (frz V cb) (.slice none 0 0) :=
 ⟨M.sea hown hU hst hinv hN,⟨rfl,.inl ⟨rfl,rfl⟩⟩,fun b hb=>(by cases hb),fun b hb=>⟨hb,rfl⟩,Nat.le_refl _⟩
theorem Mst.two (M : Mst ZQ VQ fs cb bk fs.length tb ch Z V lv) {own0 : Nat -> Prop} {b : Nat} (hb : b < VQ.heap.size) (hno : ¬ own0 b) : owOf (cwOf fs lv cb bk tb ch) own0 V.heap.size b = 2 /\ (frz V cb).heap[b]? = VQ.heap[b]?:=by
 have hlo:=M.lo
 constructor
 . unfold owOf
   rw [if_neg,if_neg hno,if_pos (by omega)]
   rintro (e | ⟨i,hi,e⟩)
   . simp only [cwOf] at e; omega
   . have:=M.ord i hi; simp only [cwOf] at e; omega
 . rw [frz_get V (by omega)]
   exact M.old b hb
theorem owOf_lt (M : Mst ZQ VQ fs cb bk fs.length tb ch Z V lv) {own0 : Nat -> Prop} {b : Nat} (h : owOf (cwOf fs lv cb bk tb ch) own0 V.heap.size b = 2) : b < (frz V cb).heap.size:=by
 rw [frz_size]
 unfold owOf at h
 split at h
 . cases h
 . split at h
   . cases h
   . split at h
     . assumption
     . cases h
theorem Mst.begin (M : Mst ZQ VQ fs cb bk fs.length tb ch Z V lv) {P : Program} {Lst : Nat -> Nat -> Goroutine -> Prop} {g : Goroutine} (K : ∀ n,0 < n -> To P Post (envOf Z V (cwOf fs lv cb bk tb ch)) Lst 0 0 0 n role0 (frz V cb) g) : To0 P Post Z V g :=
 To0.begin (cb:=cb) M.zcb rfl rfl rfl M.ok.ok (fun a v hv=>by
   unfold envOf at hv
   simp only at hv
   split at hv
   . exact hv
   . cases hv) K
theorem Mst.shut (M : Mst ZQ VQ fs cb bk fs.length tb ch Z V lv) (h : ∀ b,ZQ b ≠ some (3,0,0)) (b : Nat) : (envOf Z V (cwOf fs lv cb bk tb ch)).Z b ≠ some (3,0,0):=by
 show begZ Z cb b ≠ _
 unfold begZ
 split
 . decide
 . intro e
   rcases M.znew b _ e with h1 | h1 | h1 | ⟨i,hi,h1 | h1⟩
   . rw [M.zold b h1] at e; exact h b e
   . contradiction
   . rw [h1,M.zbk] at e; cases e
   . rw [h1,M.ztb i hi] at e; cases e
   . rw [h1,M.zch i hi] at e; cases e
end
def bls (U : Usr) (σ : U.S) (c : Int) (k : Nat) : List Value:=(List.range k).map fun i=>.bool (U.st σ i == c)
theorem bls_next (U : Usr) (σ : U.S) (c : Int) (k : Nat) : bls U σ c (k + 1) = bls U σ c k ++ [.bool (U.st σ k == c)]:=by
 unfold bls
 rw [List.range_succ,List.map_append]
 rfl
structure Rp (C : Cw) (U : Usr) (Q : Nat -> Prop) (VQ : World) (σ : U.S) (xs : List Nat) (ow : Nat -> Nat) (role : Nat -> Role) (N : Nat) (V : World) (r2 : Nat) (ov ovr pkr : Value) (k2 k3 : Nat) : Prop where
 sea : Sea C U σ ow role N V false
 q : ∀ b,Q b -> ow b = 2 /\ V.heap[b]? = VQ.heap[b]?
 big : VQ.heap.size <= V.heap.size
 rep : V.heap[r2]? = some (.cells #[ov,ovr,pkr] 28 (0,0))
 r2o : ow r2 = 2 /\ ¬ Q r2
 o1 : V.ownsRow 0 3 1 ov xs.length (ints xs)
 o2 : V.ownsRow 0 4 1 ovr k2 (bls U σ 3 k2)
 o3 : V.ownsRow 0 4 1 pkr k3 (bls U σ 2 k3)
 w1 : ∀ b,ov.ownBlock = some b -> ow b = 2 /\ ¬ Q b /\ b ≠ r2
 w2 : ∀ b,ovr.ownBlock = some b -> ow b = 2 /\ ¬ Q b /\ b ≠ r2 /\ ov.ownBlock ≠ some b
 w3 : ∀ b,pkr.ownBlock = some b -> ow b = 2 /\ ¬ Q b /\ b ≠ r2 /\ ov.ownBlock ≠ some b /\ ovr.ownBlock ≠ some b
structure Apd (V W : World) (e : TypeId) (v v' : Value) (n : Nat) (ys : List Value) : Prop where
 nrm : norm W = W
 big : V.heap.size + 1 <= W.heap.size
 keep : ∀ b,b < V.heap.size -> v.ownBlock ≠ some b -> W.heap[b]? = V.heap[b]?
 own : v'.ownBlock = v.ownBlock ∨ v'.ownBlock = some (V.heap.size + 1)
 row : W.ownsRow 0 e 1 v' n ys
section
variable {C : Cw} {E : Env} {U : Usr} {Q : Nat -> Prop} {σ : U.S} {xs : List Nat} {ow : Nat -> Nat} {role : Nat -> Role} {N : Nat} {V VQ W : World} {ov ovr pkr v v' : Value} {r2 k2 k3 n f : Nat} {e : TypeId} {ys : List Value}
theorem sea_app (hU : UOk E C U) (S : Sea C U σ ow role N V false) (hr2 : ow r2 = 2) (hv : ∀ b,v.ownBlock = some b -> ow b = 2) (A : Apd V W e v v' n ys) :
   Sea C U σ (own2 ow v') role N (W.setCell ⟨r2,f,none⟩ v') false /\ (∀ b,ow b = 2 -> own2 ow v' b = 2) /\ (∀ b,ow b ≠ 0 -> v.ownBlock ≠ some b -> b ≠ r2 -> (W.setCell ⟨r2,f,none⟩ v').heap[b]? = V.heap[b]?) /\ (∀ b,v'.ownBlock = some b -> own2 ow v' b = 2) /\ (∀ b,v'.ownBlock = some b -> b ≠ r2 -> (W.setCell ⟨r2,f,none⟩ v').heap[b]? = W.heap[b]?):=by
 have hlt : ∀ b,v'.ownBlock = some b -> b < W.heap.size:=fun b hb=>row_at A.row hb
 have hk : ∀ b,ow b ≠ 0 -> v.ownBlock ≠ some b -> b ≠ r2 -> (W.setCell ⟨r2,f,none⟩ v').heap[b]? = V.heap[b]?:=fun b hb hne hr=>by
   rw [setCell_heap,if_neg hr]
   exact A.keep b (S.lt b hb) hne
 have hnew : ∀ b,v'.ownBlock = some b -> ow b = 2 ∨ ow b = 0:=fun b hb=>by
   rcases A.own with h | h
   . exact .inl (hv b (by rw [← h]; exact hb))
   . right
     rw [h] at hb
     obtain rfl : V.heap.size + 1 = b:=by simpa using hb
     apply Classical.byContradiction
     intro hne
     have:=S.lt _ hne
     omega
 refine ⟨S.main hU (norm_set A.nrm _ _) (by rw [size_setCell]; have:=A.big; omega) (fun b hb=>hk b (by omega) (fun e=>by have:=hv b e; omega) (fun e=>by subst e; omega)) (fun b=>?_) (fun b=>?_) (fun b hb=>?_),fun b hb=>?_,hk,fun b hb=>by unfold own2; rw [if_pos hb],fun b hb hr=>by rw [setCell_heap,if_neg hr]⟩
 . unfold own2
   by_cases e : v'.ownBlock = some b
   . rw [if_pos e]; have:=hnew b e; omega
   . rw [if_neg e]
 . unfold own2
   by_cases e : v'.ownBlock = some b
   . rw [if_pos e]; have:=hnew b e; omega
   . rw [if_neg e]
 . rw [size_setCell]
   unfold own2 at hb
   by_cases e : v'.ownBlock = some b
   . exact hlt b e
   . rw [if_neg e] at hb
     have:=S.lt b hb
     have:=A.big
     omega
 . unfold own2
   by_cases e : v'.ownBlock = some b
   . rw [if_pos e]
   . rw [if_neg e]; exact hb
theorem new_not (hQ : ∀ b,Q b -> b < VQ.heap.size) (hbig : VQ.heap.size <= V.heap.size) (A : Apd V W e v v' n ys) (hv : ∀ b,v.ownBlock = some b -> ¬ Q b) {b : Nat} (hb : v'.ownBlock = some b) : ¬ Q b:=by
 rcases A.own with h | h
 . exact hv b (by rw [← h]; exact hb)
 . intro hq
   rw [h] at hb
   obtain rfl : V.heap.size + 1 = b:=by simpa using hb
   have:=hQ _ hq
   omega
theorem new_ne (A : Apd V W e v v' n ys) {x : Nat} (hx : x < V.heap.size) (hv : v.ownBlock ≠ some x) : v'.ownBlock ≠ some x:=by
 rcases A.own with h | h
 . rw [h]; exact hv
 . rw [h]
   intro e
   have : V.heap.size + 1 = x:=by simpa using e
   omega
theorem rp_over (hU : UOk E C U) (hQ : ∀ b,Q b -> b < VQ.heap.size) (R : Rp C U Q VQ σ xs ow role N V r2 ov ovr pkr k2 k3) (A : Apd V W 4 ovr v' (k2 + 1) (bls U σ 3 k2 ++ [.bool (U.st σ k2 == 3)])) :
   Rp C U Q VQ σ xs (own2 ow v') role N (W.setCell ⟨r2,1,none⟩ v') r2 ov v' pkr (k2 + 1) k3:=by
 obtain ⟨S,h2,hk,hn,hw⟩:=sea_app (f:=1) hU R.sea R.r2o.1 (fun b hb=>(R.w2 b hb).1) A
 have hrlt : r2 < V.heap.size:=R.sea.lt r2 (by rw [R.r2o.1]; decide)
 have hnr : v'.ownBlock ≠ some r2:=new_ne A hrlt (fun e=>(R.w2 r2 e).2.2.1 rfl)
 have hrow : ∀ {ty : TypeId} {u : Value} {m : Nat} {zs : List Value},V.ownsRow 0 ty 1 u m zs -> (∀ b,u.ownBlock = some b -> ow b = 2 /\ ¬ Q b /\ b ≠ r2 /\ ovr.ownBlock ≠ some b) -> (W.setCell ⟨r2,1,none⟩ v').ownsRow 0 ty 1 u m zs:=fun h hh=>owns_keep h fun b hb=>hk b (by rw [(hh b hb).1]; decide) (hh b hb).2.2.2 (hh b hb).2.2.1
 refine ⟨S,fun b hb=>⟨h2 b (R.q b hb).1,?_⟩,?_,?_,⟨h2 _ R.r2o.1,R.r2o.2⟩,hrow R.o1 fun b hb=>⟨(R.w1 b hb).1,(R.w1 b hb).2.1,(R.w1 b hb).2.2,fun e=>(R.w2 b e).2.2.2 hb⟩,?_,hrow R.o3 fun b hb=>⟨(R.w3 b hb).1,(R.w3 b hb).2.1,(R.w3 b hb).2.2.1,(R.w3 b hb).2.2.2.2⟩,fun b hb=>⟨h2 b (R.w1 b hb).1,(R.w1 b hb).2⟩,fun b hb=>⟨hn b hb,new_not hQ R.big A (fun b hb=>(R.w2 b hb).2.1) hb,fun e=>hnr (e ▸ hb),fun e=>?_⟩,fun b hb=>⟨h2 b (R.w3 b hb).1,(R.w3 b hb).2.1,(R.w3 b hb).2.2.1,(R.w3 b hb).2.2.2.1,?_⟩⟩
 . rw [hk b (by rw [(R.q b hb).1]; decide) (fun e=>(R.w2 b e).2.1 hb) (fun e=>R.r2o.2 (e ▸ hb))]
   exact (R.q b hb).2
 . rw [size_setCell]; have:=R.big; have:=A.big; omega
 . rw [setCell_heap,if_pos rfl,A.keep r2 hrlt (fun e=>(R.w2 r2 e).2.2.1 rfl),R.rep]
   simp
 . rw [bls_next]
   refine row_keep A.row fun b hb=>hw b hb (fun e=>hnr (e ▸ hb))
 . exact new_ne A (R.sea.lt b (by rw [(R.w1 b e).1]; decide)) (fun e'=>(R.w2 b e').2.2.2 e) hb
 . exact new_ne A (R.sea.lt b (by rw [(R.w3 b hb).1]; decide)) (R.w3 b hb).2.2.2.2
theorem rp_park (hU : UOk E C U) (hQ : ∀ b,Q b -> b < VQ.heap.size) (R : Rp C U Q VQ σ xs ow role N V r2 ov ovr pkr k2 k3) (A : Apd V W 4 pkr v' (k3 + 1) (bls U σ 2 k3 ++ [.bool (U.st σ k3 == 2)])) :
   Rp C U Q VQ σ xs (own2 ow v') role N (W.setCell ⟨r2,2,none⟩ v') r2 ov ovr v' k2 (k3 + 1):=by
 obtain ⟨S,h2,hk,hn,hw⟩:=sea_app (f:=2) hU R.sea R.r2o.1 (fun b hb=>(R.w3 b hb).1) A
 have hrlt : r2 < V.heap.size:=R.sea.lt r2 (by rw [R.r2o.1]; decide)
 have hnr : v'.ownBlock ≠ some r2:=new_ne A hrlt (fun e=>(R.w3 r2 e).2.2.1 rfl)
 have hrow : ∀ {ty : TypeId} {u : Value} {m : Nat} {zs : List Value},V.ownsRow 0 ty 1 u m zs -> (∀ b,u.ownBlock = some b -> ow b = 2 /\ ¬ Q b /\ b ≠ r2 /\ pkr.ownBlock ≠ some b) -> (W.setCell ⟨r2,2,none⟩ v').ownsRow 0 ty 1 u m zs:=fun h hh=>owns_keep h fun b hb=>hk b (by rw [(hh b hb).1]; decide) (hh b hb).2.2.2 (hh b hb).2.2.1
 refine ⟨S,fun b hb=>⟨h2 b (R.q b hb).1,?_⟩,?_,?_,⟨h2 _ R.r2o.1,R.r2o.2⟩,hrow R.o1 fun b hb=>⟨(R.w1 b hb).1,(R.w1 b hb).2.1,(R.w1 b hb).2.2,fun e=>(R.w3 b e).2.2.2.1 hb⟩,hrow R.o2 fun b hb=>⟨(R.w2 b hb).1,(R.w2 b hb).2.1,(R.w2 b hb).2.2.1,fun e=>(R.w3 b e).2.2.2.2 hb⟩,?_,fun b hb=>⟨h2 b (R.w1 b hb).1,(R.w1 b hb).2⟩,fun b hb=>⟨h2 b (R.w2 b hb).1,(R.w2 b hb).2⟩,fun b hb=>⟨hn b hb,new_not hQ R.big A (fun b hb=>(R.w3 b hb).2.1) hb,fun e=>hnr (e ▸ hb),fun e=>?_,fun e=>?_⟩⟩
 . rw [hk b (by rw [(R.q b hb).1]; decide) (fun e=>(R.w3 b e).2.1 hb) (fun e=>R.r2o.2 (e ▸ hb))]
   exact (R.q b hb).2
 . rw [size_setCell]; have:=R.big; have:=A.big; omega
 . rw [setCell_heap,if_pos rfl,A.keep r2 hrlt (fun e=>(R.w3 r2 e).2.2.1 rfl),R.rep]
   simp
 . rw [bls_next]
   refine row_keep A.row fun b hb=>hw b hb (fun e=>hnr (e ▸ hb))
 . exact new_ne A (R.sea.lt b (by rw [(R.w1 b e).1]; decide)) (fun e'=>(R.w3 b e').2.2.2.1 e) hb
 . exact new_ne A (R.sea.lt b (by rw [(R.w2 b e).1]; decide)) (fun e'=>(R.w3 b e').2.2.2.2 e) hb
end
theorem calm_bodies : (Lone.all (bodyOk Try.prog Lone)) = true:=by kernel_rfl
theorem calm_ahead : Try.prog.follows .staticDataAhead = true:=by kernel_rfl
theorem calm_steps : (Try.prog.funcs.toList.all fun f=>(f.body.map readies).all (fun l=>l.length == 0)) = true:=by kernel_rfl
theorem calm : Calm Try.prog Lone:=by
 refine ⟨fun f hf=>List.all_eq_true.1 calm_bodies f hf,calm_ahead,fun g _=>?_⟩
 unfold Program.stepOf
 rw [Array.findIdx?_eq_none_iff]
 intro f hf
 have h:=List.all_eq_true.1 calm_steps f (by simpa using hf)
 cases hb : f.body.map readies with
 | none=>rfl
 | some l =>
   rw [hb] at h
   simp only [Option.all_some,beq_iff_eq] at h
   have : l = []:=List.eq_nil_of_length_eq_zero h
   subst this
   rfl
end Go.Proofs.Ytibcdikfbhmheaa
