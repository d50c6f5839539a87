import Derived.Test.YtibcdikfbhmheaaB23
import Derived.Test.YtibcdikfbhmheaaB24
import Derived.Test.YtibcdikfbhmheaaB22
import Derived.Test.YtibcdikfbhmheaaB16
set_option linter.unusedSimpArgs false
set_option linter.unusedVariables false
set_option maxRecDepth 100000
set_option maxHeartbeats 4000000
namespace Go.Proofs.Ytibcdikfbhmheaa
open Go Go.Conc Go.Proofs
open Go.ConcN (sumTo upd sumTo_upd upd_ne upd_same)
set_option linter.unusedVariables false
section
variable {U : Usr} {n B : Nat} {Ok : U.S → Prop} {M : U.S → Nat}
theorem rq_stp (h1 : ∀ s i,Ok s → i < n → (U.st s i = 0 ∨ U.st s i = 1) → Ok (U.turn s i) ∧ M s + 1 ≤ M (U.turn s i)) {x : U.S × List Nat} {i : Nat} (hi : i < n) (h : Ok x.1 ∧ x.2.length ≤ M x.1) : Ok (stp U x i).1 ∧ (stp U x i).2.length ≤ M (stp U x i).1:=by
 unfold stp
 split
 · rename_i hs
   obtain ⟨a,b⟩:=h1 x.1 i h.1 hi hs
   refine ⟨a,?_⟩
   have:=h.2
   simp only [List.length_append,List.length_singleton]
   omega
 · exact h
theorem rq_fold (h1 : ∀ s i,Ok s → i < n → (U.st s i = 0 ∨ U.st s i = 1) → Ok (U.turn s i) ∧ M s + 1 ≤ M (U.turn s i)) : ∀ (l : List Nat) (x : U.S × List Nat),(∀ i ∈ l,i < n) → (Ok x.1 ∧ x.2.length ≤ M x.1) → Ok (l.foldl (stp U) x).1 ∧ (l.foldl (stp U) x).2.length ≤ M (l.foldl (stp U) x).1:=by
 intro l
 induction l with
 | nil=>intro x _ h; exact h
 | cons i l ih =>
   intro x hl h
   rw [List.foldl_cons]
   exact ih _ (fun j hj=>hl j (List.mem_cons_of_mem _ hj)) (rq_stp h1 (hl i List.mem_cons_self) h)
theorem rq_pks (hpid : ∀ p,0 < n → pidx n p < n) (h1 : ∀ s i,Ok s → i < n → (U.st s i = 0 ∨ U.st s i = 1) → Ok (U.turn s i) ∧ M s + 1 ≤ M (U.turn s i)) : ∀ (ps : List Int) (x : U.S × List Nat),(Ok x.1 ∧ x.2.length ≤ M x.1) → Ok (ps.foldl (pk U n) x).1 ∧ (ps.foldl (pk U n) x).2.length ≤ M (ps.foldl (pk U n) x).1:=by
 intro ps
 induction ps with
 | nil=>intro x h; exact h
 | cons p ps ih =>
   intro x h
   rw [List.foldl_cons]
   refine ih _ ?_
   unfold pk
   split
   · exact h
   · exact rq_stp h1 (hpid p (by omega)) h
theorem rq_mono : ∀ (l : List Nat) (x : U.S × List Nat),x.2.length ≤ (l.foldl (stp U) x).2.length:=by
 intro l
 induction l with
 | nil=>intro x; exact Nat.le_refl _
 | cons i l ih=>intro x; rw [List.foldl_cons]; exact Nat.le_trans (stp_len U x i).1 (ih _)
theorem rq_quiet : ∀ (l : List Nat) (x : U.S × List Nat),(l.foldl (stp U) x).2.length = x.2.length → l.foldl (stp U) x = x ∧ ∀ i ∈ l,¬ (U.st x.1 i = 0 ∨ U.st x.1 i = 1):=by
 intro l
 induction l with
 | nil=>intro x _; exact ⟨rfl,fun i hi=>by cases hi⟩
 | cons a l ih =>
   intro x h
   rw [List.foldl_cons] at h ⊢
   by_cases hs : U.st x.1 a = 0 ∨ U.st x.1 a = 1
   · exfalso
     have h2:=rq_mono l (stp U x a)
     have h3 : (stp U x a).2.length = x.2.length + 1:=by
       unfold stp
       rw [if_pos hs]
       simp
     omega
   · have e : stp U x a = x:=by unfold stp; rw [if_neg hs]
     rw [e] at h ⊢
     obtain ⟨h1,h2⟩:=ih x h
     refine ⟨h1,fun i hi=>?_⟩
     rcases List.mem_cons.1 hi with rfl | hi
     · exact hs
     · exact h2 i hi
theorem run_quiet (h1 : ∀ s i,Ok s → i < n → (U.st s i = 0 ∨ U.st s i = 1) → Ok (U.turn s i) ∧ M s + 1 ≤ M (U.turn s i)) (h2 : ∀ s,Ok s → M s ≤ B) : ∀ (R : Nat) (x : U.S × List Nat),(Ok x.1 ∧ x.2.length ≤ M x.1) → B < x.2.length + R → Ok (rnds U n R x).1 ∧ ∀ i,i < n → ¬ (U.st (rnds U n R x).1 i = 0 ∨ U.st (rnds U n R x).1 i = 1):=by
 intro R
 induction R with
 | zero=>intro x h hB; have:=h2 _ h.1; omega
 | succ R ih =>
   intro x h hB
   have hr:=rq_fold h1 (List.range n) x (fun i hi=>List.mem_range.1 hi) h
   have hm:=rq_mono (U:=U) (List.range n) x
   have e : rnds U n (R + 1) x = if (rnd U n x).2.length = x.2.length then rnd U n x else rnds U n R (rnd U n x):=rfl
   by_cases hq : (rnd U n x).2.length = x.2.length
   · obtain ⟨q1,q2⟩:=rq_quiet (List.range n) x hq
     rw [e,if_pos hq]
     have q1' : rnd U n x = x:=q1
     rw [q1']
     exact ⟨h.1,fun i hi=>q2 i (List.mem_range.2 hi)⟩
   · rw [e,if_neg hq]
     refine ih _ hr ?_
     have : x.2.length ≤ (rnd U n x).2.length:=hm
     omega
end
structure Lt where
 pc : Nat → Nat
 told : Bool
 ow : Nat
 q : List Nat
 cq : List Nat
 thr : Nat
namespace Lt
def go (y : Nat) (s : Lt) (i : Nat) : Lt :=
 if i = 0 then
   if s.pc 0 ≤ y then { s with pc:=upd s.pc 0 (s.pc 0 + 1) }
   else { s with pc:=upd s.pc 0 (y + 2),told:=true,cq:=[],ow:=unOw (s.q ++ s.cq),q:=(s.q ++ s.cq).tail }
 else if s.pc i = 0 then { s with pc:=upd s.pc i 1 }
 else if s.pc i = 1 ∧ ¬ (s.ow = 0 ∧ s.q = []) then { s with pc:=upd s.pc i 2,q:=s.q ++ [i] }
 else if s.told = true then { s with pc:=upd s.pc i 4,thr:=s.thr + 1,ow:=unOw s.q,q:=s.q.tail }
 else { s with pc:=upd s.pc i 3,cq:=s.cq ++ [i] }
def st (y : Nat) (s : Lt) (i : Nat) : Int :=
 if i = 0 then (if s.pc 0 = 0 then 0 else if s.pc 0 ≤ y + 1 then 1 else 3)
 else if s.pc i = 0 then 0 else if s.pc i = 1 then 1 else if s.pc i ≤ 3 then (if s.ow = i + 1 then 1 else 2) else 3
def zero : Lt:=⟨fun _=>0,false,0,[],[],0⟩
def oc (s : Lt) (i : Nat) : Nat:=if 1 ≤ i ∧ s.pc i = 4 then 1 else 0
structure Ok (n y : Nat) (s : Lt) : Prop where
 p0 : s.pc 0 ≤ y + 2
 t0 : s.told = true ↔ s.pc 0 = y + 2
 f : s.told = false → s.ow = 0 ∧ s.q = [] ∧ ∀ i,1 ≤ i → i ≤ n → s.pc i = 0 ∨ s.pc i = 1 ∨ s.pc i = 3
 cq : ∀ x,x ∈ s.cq ↔ s.told = false ∧ 1 ≤ x ∧ x ≤ n ∧ s.pc x = 3
 cnd : s.cq.Nodup
 w2 : ∀ i,i ≤ n → s.ow = i + 1 → 1 ≤ i ∧ (s.pc i = 2 ∨ s.pc i = 3)
 w3 : ∀ x ∈ s.q,1 ≤ x ∧ x ≤ n ∧ (s.pc x = 2 ∨ s.pc x = 3) ∧ s.ow ≠ x + 1
 w4 : s.told = true → ∀ i,1 ≤ i → i ≤ n → (s.pc i = 2 ∨ s.pc i = 3) → i ∈ s.q ∨ s.ow = i + 1
 w5 : s.ow = 0 → s.q = []
 w6 : s.ow ≤ n + 1
 nd : s.q.Nodup
 top : ∀ i,1 ≤ i → i ≤ n → s.pc i ≤ 4
 thr : s.thr = sumTo (n + 1) (oc s)
theorem ok_zero (n y : Nat) : Ok n y zero:=by
 refine ⟨Nat.zero_le _,⟨fun h=>(by cases h),fun h=>(by have : 0 = y + 2:=h; omega)⟩,fun _=>⟨rfl,rfl,fun i _ _=>.inl rfl⟩,fun x=>⟨fun h=>(by cases h),fun h=>?_⟩,List.nodup_nil,fun i _ h=>?_,fun x h=>(by cases h),fun h=>(by cases h),fun _=>rfl,Nat.zero_le _,List.nodup_nil,fun i _ _=>Nat.zero_le _,?_⟩
 · have : 0 = 3:=h.2.2.2; omega
 · have : 0 = i + 1:=h; omega
 · show 0 = sumTo (n + 1) (oc zero)
   have : ∀ m,sumTo m (oc zero) = 0:=by
     intro m
     induction m with
     | zero=>rfl
     | succ m ih =>
       show sumTo m (oc zero) + oc zero m = 0
       rw [ih]
       unfold oc zero
       rw [if_neg (fun h=>by have : (0 : Nat) = 4:=h.2; omega)]
   rw [this]
section
variable {n y i : Nat} {s : Lt}
theorem unOw_cons (x : Nat) (l : List Nat) : unOw (x :: l) = x + 1:=rfl
theorem oc_upd {s' : Lt} {p : Nat} (hi : i < n) (h1 : 1 ≤ i) (h4 : s.pc i ≠ 4) (e : s'.pc = upd s.pc i p) : sumTo n (oc s') = sumTo n (oc s) + (if p = 4 then 1 else 0):=by
 have e1 : oc s' = upd (oc s) i (if p = 4 then 1 else 0):=by
   funext j
   unfold oc
   rw [e]
   by_cases hj : j = i
   · subst hj
     rw [upd_same,upd_same]
     by_cases hp : p = 4
     · rw [if_pos ⟨h1,hp⟩,if_pos hp]
     · rw [if_neg (fun h=>hp h.2),if_neg hp]
   · rw [upd_ne _ _ hj,upd_ne _ _ hj]
 have h2 : sumTo n (upd (oc s) i (if p = 4 then 1 else 0)) + oc s i = sumTo n (oc s) + (if p = 4 then 1 else 0):=sumTo_upd (oc s) _ id hi
 have h3 : oc s i = 0:=by unfold oc; rw [if_neg (fun h=>h4 h.2)]
 rw [e1]
 omega
theorem oc_tell {s' : Lt} {p : Nat} (e : s'.pc = upd s.pc 0 p) : oc s' = oc s:=by
 funext j
 unfold oc
 rw [e]
 by_cases hj : j = 0
 · subst hj
   rw [if_neg (fun h=>by have:=h.1; omega),if_neg (fun h=>by have:=h.1; omega)]
 · rw [upd_ne _ _ hj]
theorem head_facts {q : List Nat} (hnd : q.Nodup) : (unOw q = 0 → q.tail = []) ∧ q.tail.Nodup ∧ (∀ x ∈ q.tail,x ∈ q ∧ unOw q ≠ x + 1) ∧ (∀ x ∈ q,x ∈ q.tail ∨ unOw q = x + 1) ∧ (∀ x,unOw q = x + 1 → x ∈ q):=by
 cases q with
 | nil=>exact ⟨fun _=>rfl,List.nodup_nil,fun x h=>(by cases h),fun x h=>(by cases h),fun x h=>(by cases h)⟩
 | cons a l =>
   obtain ⟨h1,h2⟩:=List.nodup_cons.1 hnd
   refine ⟨fun h=>?_,h2,fun x hx=>⟨List.mem_cons_of_mem _ hx,fun e=>?_⟩,fun x hx=>?_,fun x e=>?_⟩
   · rw [unOw_cons] at h; omega
   · rw [unOw_cons] at e
     obtain rfl : a = x:=by omega
     exact h1 hx
   · rcases List.mem_cons.1 hx with rfl | hx
     · exact .inr rfl
     · exact .inl hx
   · rw [unOw_cons] at e
     obtain rfl : a = x:=by omega
     exact List.mem_cons_self
theorem st_teller : st y s 0 = if s.pc 0 = 0 then 0 else if s.pc 0 ≤ y + 1 then 1 else 3:=if_pos rfl
theorem st_waiter (hi : 1 ≤ i) : st y s i = if s.pc i = 0 then 0 else if s.pc i = 1 then 1 else if s.pc i ≤ 3 then (if s.ow = i + 1 then 1 else 2) else 3:=if_neg (by omega)
theorem ready_teller (h : st y s 0 = 0 ∨ st y s 0 = 1) : s.pc 0 ≤ y + 1:=by
 rw [st_teller] at h
 repeat' split at h
 all_goals omega
theorem ready_waiter (hi : 1 ≤ i) (h : st y s i = 0 ∨ st y s i = 1) : s.pc i = 0 ∨ s.pc i = 1 ∨ ((s.pc i = 2 ∨ s.pc i = 3) ∧ s.ow = i + 1):=by
 rw [st_waiter hi] at h
 repeat' split at h
 all_goals omega
end
end Lt
end Go.Proofs.Ytibcdikfbhmheaa

namespace Go.Proofs.Ytibcdikfbhmheaa
open Go Go.Conc Go.Proofs
open Go.ConcN (sumTo upd sumTo_upd upd_ne upd_same)
set_option linter.unusedVariables false
namespace Lt
section
variable {n y i : Nat} {s : Lt}
theorem ok_yield (h : Ok n y s) (hp : s.pc 0 ≤ y) : Ok n y { s with pc:=upd s.pc 0 (s.pc 0 + 1) }:=by
 have hu : ∀ j,1 ≤ j → upd s.pc 0 (s.pc 0 + 1) j = s.pc j:=fun j hj=>upd_ne _ _ (by omega)
 have hb : s.told = false:=by
   cases ht : s.told with
   | false=>rfl
   | true=>have:=h.t0.1 ht; omega
 obtain ⟨f1,f2,f3⟩:=h.f hb
 refine ⟨by show upd s.pc 0 (s.pc 0 + 1) 0 ≤ y + 2; rw [upd_same]; omega,⟨fun e=>?_,fun e=>?_⟩,fun _=>⟨f1,f2,fun j h1 h2=>?_⟩,fun x=>?_,h.cnd,fun j hj e=>?_,fun x hx=>?_,fun e=>?_,h.w5,h.w6,h.nd,fun j h1 h2=>?_,?_⟩
 · rw [show s.told = true from e] at hb; cases hb
 · exfalso
   have : upd s.pc 0 (s.pc 0 + 1) 0 = y + 2:=e
   rw [upd_same] at this
   omega
 · show upd s.pc 0 (s.pc 0 + 1) j = 0 ∨ upd s.pc 0 (s.pc 0 + 1) j = 1 ∨ upd s.pc 0 (s.pc 0 + 1) j = 3
   rw [hu j h1]; exact f3 j h1 h2
 · show x ∈ s.cq ↔ s.told = false ∧ 1 ≤ x ∧ x ≤ n ∧ upd s.pc 0 (s.pc 0 + 1) x = 3
   rw [h.cq x]
   constructor
   · rintro ⟨a,b,c,d⟩; exact ⟨a,b,c,by rw [hu x b]; exact d⟩
   · rintro ⟨a,b,c,d⟩; exact ⟨a,b,c,by rw [hu x b] at d; exact d⟩
 · obtain ⟨a,b⟩:=h.w2 j hj e
   exact ⟨a,by show upd s.pc 0 (s.pc 0 + 1) j = 2 ∨ upd s.pc 0 (s.pc 0 + 1) j = 3; rw [hu j a]; exact b⟩
 · obtain ⟨a,b,c,d⟩:=h.w3 x hx
   exact ⟨a,b,by show upd s.pc 0 (s.pc 0 + 1) x = 2 ∨ upd s.pc 0 (s.pc 0 + 1) x = 3; rw [hu x a]; exact c,d⟩
 · rw [show s.told = true from e] at hb; cases hb
 · show upd s.pc 0 (s.pc 0 + 1) j ≤ 4
   rw [hu j h1]; exact h.top j h1 h2
 · rw [oc_tell (s:=s) rfl]; exact h.thr
theorem ok_tell (h : Ok n y s) (hp : s.pc 0 = y + 1) : Ok n y { s with pc:=upd s.pc 0 (y + 2),told:=true,cq:=[],ow:=unOw (s.q ++ s.cq),q:=(s.q ++ s.cq).tail }:=by
 have hu : ∀ j,1 ≤ j → upd s.pc 0 (y + 2) j = s.pc j:=fun j hj=>upd_ne _ _ (by omega)
 have hb : s.told = false:=by
   cases ht : s.told with
   | false=>rfl
   | true=>have:=h.t0.1 ht; omega
 obtain ⟨f1,f2,f3⟩:=h.f hb
 rw [f2,List.nil_append]
 obtain ⟨a1,a2,a3,a4,a5⟩:=head_facts h.cnd
 refine ⟨by show upd s.pc 0 (y + 2) 0 ≤ y + 2; rw [upd_same]; omega,⟨fun _=>upd_same s.pc 0 (y + 2),fun _=>rfl⟩,fun e=>(by cases e),fun x=>⟨fun hx=>(by cases hx),fun hx=>(by cases hx.1)⟩,List.nodup_nil,fun j hj e=>?_,fun x hx=>?_,fun _ j h1 h2 hp=>?_,a1,?_,a2,fun j h1 h2=>?_,?_⟩
 · obtain ⟨_,b,_,d⟩:=(h.cq j).1 (a5 j e)
   exact ⟨b,.inr ((hu j b).trans d)⟩
 · obtain ⟨m,ne⟩:=a3 x hx
   obtain ⟨_,b,c,d⟩:=(h.cq x).1 m
   exact ⟨b,c,.inr ((hu x b).trans d),ne⟩
 · have hp : upd s.pc 0 (y + 2) j = 2 ∨ upd s.pc 0 (y + 2) j = 3:=hp
   rw [hu j h1] at hp
   rcases f3 j h1 h2 with h0 | h0 | h0
   · omega
   · omega
   · exact a4 j ((h.cq j).2 ⟨hb,h1,h2,h0⟩)
 · show unOw s.cq ≤ n + 1
   rcases Nat.eq_zero_or_pos (unOw s.cq) with e | e
   · omega
   · obtain ⟨x,hx⟩ : ∃ x,unOw s.cq = x + 1:=⟨unOw s.cq - 1,by omega⟩
     have:=((h.cq x).1 (a5 x hx)).2.2.1
     omega
 · show upd s.pc 0 (y + 2) j ≤ 4
   rw [hu j h1]; exact h.top j h1 h2
 · rw [oc_tell (s:=s) rfl]; exact h.thr
theorem ok_begin (h : Ok n y s) (h1 : 1 ≤ i) (hi : i ≤ n) (hp : s.pc i = 0) : Ok n y { s with pc:=upd s.pc i 1 }:=by
 have h0 : upd s.pc i 1 0 = s.pc 0:=upd_ne _ _ (by omega)
 have hx : ∀ j,(s.pc j = 2 ∨ s.pc j = 3) → upd s.pc i 1 j = s.pc j:=fun j hj=>upd_ne _ _ (fun e=>by subst e; omega)
 refine ⟨by show upd s.pc i 1 0 ≤ _; rw [h0]; exact h.p0,by show _ ↔ upd s.pc i 1 0 = _; rw [h0]; exact h.t0,fun hb=>?_,fun x=>?_,h.cnd,fun j hj e=>?_,fun x hxq=>?_,fun e j g1 g2 hp'=>?_,h.w5,h.w6,h.nd,fun j g1 g2=>?_,?_⟩
 · obtain ⟨f1,f2,f3⟩:=h.f hb
   refine ⟨f1,f2,fun j g1 g2=>?_⟩
   show upd s.pc i 1 j = 0 ∨ upd s.pc i 1 j = 1 ∨ upd s.pc i 1 j = 3
   by_cases e : j = i
   · subst e; rw [upd_same]; omega
   · rw [upd_ne _ _ e]; exact f3 j g1 g2
 · show x ∈ s.cq ↔ s.told = false ∧ 1 ≤ x ∧ x ≤ n ∧ upd s.pc i 1 x = 3
   rw [h.cq x]
   by_cases e : x = i
   · subst e; rw [upd_same]; omega
   · rw [upd_ne _ _ e]
 · obtain ⟨a,b⟩:=h.w2 j hj e
   exact ⟨a,by show upd s.pc i 1 j = 2 ∨ upd s.pc i 1 j = 3; rw [hx j b]; exact b⟩
 · obtain ⟨a,b,c,d⟩:=h.w3 x hxq
   exact ⟨a,b,by show upd s.pc i 1 x = 2 ∨ upd s.pc i 1 x = 3; rw [hx x c]; exact c,d⟩
 · have hp' : upd s.pc i 1 j = 2 ∨ upd s.pc i 1 j = 3:=hp'
   by_cases e2 : j = i
   · subst e2; rw [upd_same] at hp'; omega
   · rw [upd_ne _ _ e2] at hp'; exact h.w4 e j g1 g2 hp'
 · show upd s.pc i 1 j ≤ 4
   by_cases e : j = i
   · subst e; rw [upd_same]; omega
   · rw [upd_ne _ _ e]; exact h.top j g1 g2
 · rw [oc_upd (s:=s) (by omega) h1 (by omega) rfl,if_neg (by omega)]; exact h.thr
theorem told_of (h : Ok n y s) (hf : ¬ (s.ow = 0 ∧ s.q = [])) : s.told = true:=by
 cases ht : s.told with
 | true=>rfl
 | false=>exact absurd ⟨(h.f ht).1,(h.f ht).2.1⟩ hf
theorem ok_queue (h : Ok n y s) (h1 : 1 ≤ i) (hi : i ≤ n) (hp : s.pc i = 1) (hf : ¬ (s.ow = 0 ∧ s.q = [])) : Ok n y { s with pc:=upd s.pc i 2,q:=s.q ++ [i] }:=by
 have ht:=told_of h hf
 have h0 : upd s.pc i 2 0 = s.pc 0:=upd_ne _ _ (by omega)
 have hx : ∀ j,(s.pc j = 2 ∨ s.pc j = 3) → upd s.pc i 2 j = s.pc j:=fun j hj=>upd_ne _ _ (fun e=>by subst e; omega)
 have hiq : i ∉ s.q:=fun hm=>by have:=(h.w3 i hm).2.2.1; omega
 have how0 : s.ow ≠ 0:=fun e=>hf ⟨e,h.w5 e⟩
 have howi : s.ow ≠ i + 1:=fun e=>by have:=(h.w2 i hi e).2; omega
 refine ⟨by show upd s.pc i 2 0 ≤ _; rw [h0]; exact h.p0,by show _ ↔ upd s.pc i 2 0 = _; rw [h0]; exact h.t0,fun hb=>?_,fun x=>?_,h.cnd,fun j hj e=>?_,fun x hxq=>?_,fun e j g1 g2 hp'=>?_,fun e=>absurd e how0,h.w6,?_,fun j g1 g2=>?_,?_⟩
 · rw [show s.told = false from hb] at ht; cases ht
 · show x ∈ s.cq ↔ s.told = false ∧ _
   rw [h.cq x,ht]
   simp
 · obtain ⟨a,b⟩:=h.w2 j hj e
   exact ⟨a,by show upd s.pc i 2 j = 2 ∨ upd s.pc i 2 j = 3; rw [hx j b]; exact b⟩
 · rcases List.mem_append.1 hxq with hxq | hxq
   · obtain ⟨a,b,c,d⟩:=h.w3 x hxq
     exact ⟨a,b,by show upd s.pc i 2 x = 2 ∨ upd s.pc i 2 x = 3; rw [hx x c]; exact c,d⟩
   · obtain rfl:=List.mem_singleton.1 hxq
     exact ⟨h1,hi,.inl (upd_same _ _ _),howi⟩
 · have hp' : upd s.pc i 2 j = 2 ∨ upd s.pc i 2 j = 3:=hp'
   by_cases e2 : j = i
   · subst e2; exact .inl (List.mem_append.2 (.inr (by simp)))
   · rw [upd_ne _ _ e2] at hp'
     rcases h.w4 e j g1 g2 hp' with h5 | h5
     · exact .inl (List.mem_append.2 (.inl h5))
     · exact .inr h5
 · show (s.q ++ [i]).Nodup
   rw [List.nodup_append]
   exact ⟨h.nd,by simp,fun a ha b hb=>by rw [List.mem_singleton] at hb; subst hb; exact fun e=>hiq (e ▸ ha)⟩
 · show upd s.pc i 2 j ≤ 4
   by_cases e : j = i
   · subst e; rw [upd_same]; omega
   · rw [upd_ne _ _ e]; exact h.top j g1 g2
 · rw [oc_upd (s:=s) (by omega) h1 (by omega) rfl,if_neg (by omega)]; exact h.thr
theorem ok_over (h : Ok n y s) (h1 : 1 ≤ i) (hi : i ≤ n) (ht : s.told = true) (hp : (s.pc i = 1 ∧ s.ow = 0 ∧ s.q = []) ∨ ((s.pc i = 2 ∨ s.pc i = 3) ∧ s.ow = i + 1)) : Ok n y { s with pc:=upd s.pc i 4,thr:=s.thr + 1,ow:=unOw s.q,q:=s.q.tail }:=by
 have h0 : upd s.pc i 4 0 = s.pc 0:=upd_ne _ _ (by omega)
 have hiq : i ∉ s.q:=fun hm=>by
   rcases hp with ⟨_,_,e⟩ | ⟨_,e⟩
   · rw [e] at hm; cases hm
   · exact (h.w3 i hm).2.2.2 e
 obtain ⟨a1,a2,a3,a4,a5⟩:=head_facts h.nd
 refine ⟨by show upd s.pc i 4 0 ≤ _; rw [h0]; exact h.p0,by show _ ↔ upd s.pc i 4 0 = _; rw [h0]; exact h.t0,fun hb=>?_,fun x=>?_,h.cnd,fun j hj e=>?_,fun x hxq=>?_,fun _ j g1 g2 hp'=>?_,a1,?_,a2,fun j g1 g2=>?_,?_⟩
 · rw [show s.told = false from hb] at ht; cases ht
 · show x ∈ s.cq ↔ s.told = false ∧ _
   rw [h.cq x,ht]
   simp
 · have hm:=a5 j e
   obtain ⟨a,b,c,d⟩:=h.w3 j hm
   refine ⟨a,?_⟩
   show upd s.pc i 4 j = 2 ∨ upd s.pc i 4 j = 3
   rw [upd_ne _ _ (fun e=>hiq (by rw [← e]; exact hm))]; exact c
 · obtain ⟨m,ne⟩:=a3 x hxq
   obtain ⟨a,b,c,d⟩:=h.w3 x m
   refine ⟨a,b,?_,ne⟩
   show upd s.pc i 4 x = 2 ∨ upd s.pc i 4 x = 3
   rw [upd_ne _ _ (fun e=>hiq (by rw [← e]; exact m))]; exact c
 · have hp' : upd s.pc i 4 j = 2 ∨ upd s.pc i 4 j = 3:=hp'
   by_cases e2 : j = i
   · subst e2; rw [upd_same] at hp'; omega
   · rw [upd_ne _ _ e2] at hp'
     rcases h.w4 ht j g1 g2 hp' with h5 | h5
     · exact a4 j h5
     · rcases hp with ⟨_,e,_⟩ | ⟨_,e⟩
       · omega
       · omega
 · show unOw s.q ≤ n + 1
   rcases Nat.eq_zero_or_pos (unOw s.q) with e | e
   · omega
   · obtain ⟨x,hx⟩ : ∃ x,unOw s.q = x + 1:=⟨unOw s.q - 1,by omega⟩
     have:=(h.w3 x (a5 x hx)).2.1
     omega
 · show upd s.pc i 4 j ≤ 4
   by_cases e : j = i
   · subst e; rw [upd_same]; omega
   · rw [upd_ne _ _ e]; exact h.top j g1 g2
 · rw [oc_upd (s:=s) (by omega) h1 (by omega) rfl,if_pos rfl,← h.thr]
theorem ok_wait (h : Ok n y s) (h1 : 1 ≤ i) (hi : i ≤ n) (ht : s.told = false) (hp : s.pc i = 1) : Ok n y { s with pc:=upd s.pc i 3,cq:=s.cq ++ [i] }:=by
 have h0 : upd s.pc i 3 0 = s.pc 0:=upd_ne _ _ (by omega)
 obtain ⟨f1,f2,f3⟩:=h.f ht
 have hic : i ∉ s.cq:=fun hm=>by have:=((h.cq i).1 hm).2.2.2; omega
 refine ⟨by show upd s.pc i 3 0 ≤ _; rw [h0]; exact h.p0,by show _ ↔ upd s.pc i 3 0 = _; rw [h0]; exact h.t0,fun hb=>⟨f1,f2,fun j g1 g2=>?_⟩,fun x=>?_,?_,fun j hj e=>?_,fun x hxq=>?_,fun e=>?_,h.w5,h.w6,h.nd,fun j g1 g2=>?_,?_⟩
 · show upd s.pc i 3 j = 0 ∨ upd s.pc i 3 j = 1 ∨ upd s.pc i 3 j = 3
   by_cases e : j = i
   · subst e; rw [upd_same]; omega
   · rw [upd_ne _ _ e]; exact f3 j g1 g2
 · show x ∈ s.cq ++ [i] ↔ s.told = false ∧ 1 ≤ x ∧ x ≤ n ∧ upd s.pc i 3 x = 3
   rw [List.mem_append,List.mem_singleton,h.cq x]
   by_cases e : x = i
   · subst e; rw [upd_same]
     exact ⟨fun _=>⟨ht,h1,hi,rfl⟩,fun _=>.inr rfl⟩
   · rw [upd_ne _ _ e]
     exact ⟨fun h=>h.elim id fun h=>absurd h e,fun h=>.inl h⟩
 · show (s.cq ++ [i]).Nodup
   rw [List.nodup_append]
   exact ⟨h.cnd,by simp,fun a ha b hb=>by rw [List.mem_singleton] at hb; subst hb; exact fun e=>hic (e ▸ ha)⟩
 · have : s.ow = j + 1:=e
   omega
 · rw [show s.q = [] from f2] at hxq; cases hxq
 · rw [show s.told = true from e] at ht; cases ht
 · show upd s.pc i 3 j ≤ 4
   by_cases e : j = i
   · subst e; rw [upd_same]; omega
   · rw [upd_ne _ _ e]; exact h.top j g1 g2
 · rw [oc_upd (s:=s) (by omega) h1 (by omega) rfl,if_neg (by omega)]; exact h.thr
theorem ok_go (h : Ok n y s) (hi : i ≤ n) (hs : st y s i = 0 ∨ st y s i = 1) : Ok n y (go y s i):=by
 unfold go
 by_cases e0 : i = 0
 · subst e0
   rw [if_pos rfl]
   have:=ready_teller hs
   by_cases hp : s.pc 0 ≤ y
   · rw [if_pos hp]; exact ok_yield h hp
   · rw [if_neg hp]; exact ok_tell h (by omega)
 · rw [if_neg e0]
   have h1 : 1 ≤ i:=by omega
   have hr:=ready_waiter h1 hs
   by_cases hp0 : s.pc i = 0
   · rw [if_pos hp0]; exact ok_begin h h1 hi hp0
   · rw [if_neg hp0]
     by_cases hq : s.pc i = 1 ∧ ¬ (s.ow = 0 ∧ s.q = [])
     · rw [if_pos hq]; exact ok_queue h h1 hi hq.1 hq.2
     · rw [if_neg hq]
       by_cases ht : s.told = true
       · rw [if_pos ht]
         refine ok_over h h1 hi ht ?_
         rcases hr with hr | hr | hr
         · exact absurd hr hp0
         · by_cases hf : s.ow = 0 ∧ s.q = []
           · exact .inl ⟨hr,hf⟩
           · exact absurd ⟨hr,hf⟩ hq
         · exact .inr hr
       · rw [if_neg ht]
         have ht' : s.told = false:=by simpa using ht
         refine ok_wait h h1 hi ht' ?_
         rcases hr with hr | hr | hr
         · exact absurd hr hp0
         · exact hr
         · have:=(h.f ht').1; omega
theorem go_pc (y : Nat) (s : Lt) (i j : Nat) (h : j ≠ i) : (go y s i).pc j = s.pc j:=by
 unfold go
 by_cases e : i = 0
 · subst e
   rw [if_pos rfl]
   split
   · exact upd_ne _ _ h
   · exact upd_ne _ _ h
 · rw [if_neg e]
   repeat' split
   all_goals exact upd_ne _ _ h
theorem go_more (h : Ok n y s) (hi : i ≤ n) (hs : st y s i = 0 ∨ st y s i = 1) : s.pc i + 1 ≤ (go y s i).pc i:=by
 unfold go
 by_cases e0 : i = 0
 · subst e0
   rw [if_pos rfl]
   have:=ready_teller hs
   split
   · show _ ≤ upd s.pc 0 (s.pc 0 + 1) 0
     rw [upd_same]; exact Nat.le_refl _
   · show _ ≤ upd s.pc 0 (y + 2) 0
     rw [upd_same]; omega
 · rw [if_neg e0]
   have hr:=ready_waiter (by omega) hs
   by_cases hp0 : s.pc i = 0
   · rw [if_pos hp0]
     show _ ≤ upd s.pc i 1 i
     rw [upd_same]; omega
   · rw [if_neg hp0]
     by_cases hq : s.pc i = 1 ∧ ¬ (s.ow = 0 ∧ s.q = [])
     · rw [if_pos hq]
       show _ ≤ upd s.pc i 2 i
       rw [upd_same]; omega
     · rw [if_neg hq]
       by_cases ht : s.told = true
       · rw [if_pos ht]
         show _ ≤ upd s.pc i 4 i
         rw [upd_same]; omega
       · rw [if_neg ht]
         have ht' : s.told = false:=by simpa using ht
         have:=(h.f ht').1
         show _ ≤ upd s.pc i 3 i
         rw [upd_same]; omega
theorem go_ow (h : Ok n y s) (hi : i ≤ n) (hs : st y s i = 0 ∨ st y s i = 1) {j : Nat} (hj : j ≤ n) (hji : j ≠ i) (ho : s.ow = j + 1) : (go y s i).ow = j + 1:=by
 have hw:=h.w2 j hj ho
 unfold go
 by_cases e0 : i = 0
 · subst e0
   rw [if_pos rfl]
   split
   · exact ho
   · rename_i hp
     have hb : s.told = false:=by
       cases ht : s.told with
       | false=>rfl
       | true=>have:=h.t0.1 ht; have:=ready_teller hs; omega
     have:=(h.f hb).1
     omega
 · rw [if_neg e0]
   have hr:=ready_waiter (by omega) hs
   by_cases hp0 : s.pc i = 0
   · rw [if_pos hp0]; exact ho
   · rw [if_neg hp0]
     by_cases hq : s.pc i = 1 ∧ ¬ (s.ow = 0 ∧ s.q = [])
     · rw [if_pos hq]; exact ho
     · exfalso
       rcases hr with hr | hr | hr
       · exact hp0 hr
       · exact hq ⟨hr,fun e=>by omega⟩
       · omega
theorem go_st (h : Ok n y s) (hi : i ≤ n) (hs : st y s i = 0 ∨ st y s i = 1) {j : Nat} (hj : j ≤ n) (hji : j ≠ i) : st y (go y s i) j = st y s j ∨ (st y s j = 2 ∧ st y (go y s i) j = 1):=by
 have hp:=go_pc y s i j hji
 by_cases e0 : j = 0
 · subst e0
   left
   rw [st_teller,st_teller,hp]
 · have h1 : 1 ≤ j:=by omega
   rw [st_waiter h1,st_waiter h1,hp]
   by_cases a0 : s.pc j = 0
   · rw [if_pos a0,if_pos a0]; exact .inl rfl
   · rw [if_neg a0,if_neg a0]
     by_cases a1 : s.pc j = 1
     · rw [if_pos a1,if_pos a1]; exact .inl rfl
     · rw [if_neg a1,if_neg a1]
       by_cases a3 : s.pc j ≤ 3
       · rw [if_pos a3,if_pos a3]
         by_cases ho : s.ow = j + 1
         · rw [if_pos ho,if_pos (go_ow h hi hs hj hji ho)]; exact .inl rfl
         · rw [if_neg ho]
           split
           · exact .inr ⟨rfl,rfl⟩
           · exact .inl rfl
       · rw [if_neg a3,if_neg a3]; exact .inl rfl
theorem ok_end (h : Ok n y s) (hq : ∀ i,i ≤ n → ¬ (st y s i = 0 ∨ st y s i = 1)) : s.told = true ∧ s.ow = 0 ∧ s.cq = [] ∧ s.thr = n:=by
 have h0:=hq 0 (Nat.zero_le _)
 rw [st_teller] at h0
 have hp:=h.p0
 have e0 : s.pc 0 = y + 2:=by
   repeat' split at h0
   all_goals omega
 have ht:=h.t0.2 e0
 have how : s.ow = 0:=by
   rcases Nat.eq_zero_or_pos s.ow with e | e
   · exact e
   · exfalso
     obtain ⟨x,hx⟩ : ∃ x,s.ow = x + 1:=⟨s.ow - 1,by omega⟩
     have h6:=h.w6
     obtain ⟨a,b⟩:=h.w2 x (by omega) hx
     have h2:=hq x (by omega)
     rw [st_waiter a] at h2
     rw [if_neg (by omega),if_neg (by omega),if_pos (by omega),if_pos hx] at h2
     exact h2 (.inr rfl)
 have hall : ∀ i,1 ≤ i → i ≤ n → s.pc i = 4:=fun i g1 g2=>by
   have h2:=hq i g2
   have h3:=h.top i g1 g2
   rw [st_waiter g1] at h2
   have h4 : ¬ (s.pc i = 2 ∨ s.pc i = 3):=fun h5=>by
     rcases h.w4 ht i g1 g2 h5 with h6 | h6
     · rw [h.w5 how] at h6; cases h6
     · omega
   by_cases a0 : s.pc i = 0
   · rw [if_pos a0] at h2; exact absurd (.inl rfl) h2
   · rw [if_neg a0] at h2
     by_cases a1 : s.pc i = 1
     · rw [if_pos a1] at h2; exact absurd (.inr rfl) h2
     · omega
 refine ⟨ht,how,?_,?_⟩
 · cases hc : s.cq with
   | nil=>rfl
   | cons a l =>
     exfalso
     have:=((h.cq a).1 (by rw [hc]; exact List.mem_cons_self)).1
     rw [ht] at this; cases this
 · rw [h.thr]
   have : ∀ m,m ≤ n → sumTo (m + 1) (oc s) = m:=by
     intro m
     induction m with
     | zero =>
       intro _
       show sumTo 0 (oc s) + oc s 0 = 0
       unfold oc
       rw [if_neg (fun h=>by have:=h.1; omega)]
       rfl
     | succ m ih =>
       intro hm
       show sumTo (m + 1) (oc s) + oc s (m + 1) = m + 1
       rw [ih (by omega)]
       unfold oc
       rw [if_pos ⟨by omega,hall (m + 1) (by omega) hm⟩]
   exact this n (Nat.le_refl _)
theorem pc_sum (h : Ok n y s) : sumTo (n + 1) s.pc ≤ y + 2 + 4 * n:=by
 have : ∀ m,m ≤ n → sumTo (m + 1) s.pc ≤ y + 2 + 4 * m:=by
   intro m
   induction m with
   | zero =>
     intro _
     show sumTo 0 s.pc + s.pc 0 ≤ _
     have:=h.p0
     have e : sumTo 0 s.pc = 0:=rfl
     omega
   | succ m ih =>
     intro hm
     show sumTo (m + 1) s.pc + s.pc (m + 1) ≤ _
     have h1:=ih (by omega)
     have h2:=h.top (m + 1) (by omega) hm
     omega
 exact this n (Nat.le_refl _)
theorem st_cases (y : Nat) (s : Lt) (i : Nat) : st y s i = 0 ∨ st y s i = 1 ∨ st y s i = 2 ∨ st y s i = 3:=by
 unfold st
 repeat' split
 all_goals omega
end
end Lt
end Go.Proofs.Ytibcdikfbhmheaa

namespace Go.Proofs.Ytibcdikfbhmheaa
open Go Go.Conc Go.Proofs
open Go.ConcN (sumTo upd sumTo_upd upd_ne upd_same)
set_option linter.unusedVariables false
theorem arrg_QK01 {n : Nat} (T : Array Value) (h : T.size = n) : ∃ f : Nat → Value,(∀ i v,T[i]? = some v → f i = v) ∧ T = ((List.range n).map f).toArray:=by
 refine ⟨fun i=>T.getD i undef,fun i v hv=>by simp [Array.getD_eq_getD_getElem?,hv],?_⟩
 generalize hf : (fun i=>T.getD i undef) = f
 have e : T.toList = (List.range n).map f:=by
   apply List.ext_getElem?
   intro i
   rw [List.getElem?_map,Array.getElem?_toList]
   by_cases hi : i < n
   · rw [List.getElem?_range hi,Option.map_some,← hf]
     simp [Array.getD_eq_getD_getElem?,Array.getElem?_eq_getElem (show i < T.size by omega)]
   · rw [List.getElem?_eq_none (by simp; omega),Array.getElem?_eq_none (by omega)]
     rfl
 rw [← Array.toArray_toList (xs:=T),e]
theorem array14f (T : Array Value) (h : T.size = 14) : ∃ f : Nat → Value,(∀ i v,T[i]? = some v → f i = v) ∧ T = #[f 0,f 1,f 2,f 3,f 4,f 5,f 6,f 7,f 8,f 9,f 10,f 11,f 12,f 13]:=arrg_QK01 T h
noncomputable def R94a : Code:=nva (Try.f94.body.getD .skip)
noncomputable def R94b : Code:=nvb (Try.f94.body.getD .skip)
def SLt (cb bx x : Nat) (cv mp : Value) (l : Array Bool) (w : World) : Prop:=(w.cell? ⟨bx,0,none⟩ = some (.int .i64 (x : Int)) ∧ w.cell? ⟨bx,1,none⟩ = some mp) ∧ (l.getD 10 false = false → w.cell? ⟨cb,0,none⟩ = some cv)
structure PuW (V : World) (cb : Nat) (cv : Value) (n : Nat) (q : List Value) (x : Nat) (mp : Value) (V' : World) (cv' : Value) : Prop where
 nrm : norm V' = V'
 c : V'.heap[cb]? = some (.cells #[cv'] 102 (0,0))
 qu : Qu V' 183 2 cv' (n + 1) (q ++ [.int .i64 (x : Int),mp])
 sz : V.heap.size ≤ V'.heap.size
 keep : ∀ b,b < V.heap.size → b ≠ cb → cv.ownBlock ≠ some b → V'.heap[b]? = V.heap[b]?
 own : cv'.ownBlock = cv.ownBlock ∨ ∃ b,cv'.ownBlock = some b ∧ V.heap.size ≤ b
def TLt (T : Array Value) (cb bx : Nat) : Prop:=T.size = 14 ∧ T[0]? = some (bq cb) ∧ T[3]? = some (bq bx)
section
variable {main : Bool} {Z : Cuts} {Stop : Goroutine → World → Prop} {V : World} {cb x n : Nat} {cv : Value} {m1 : Option Addr} {q : List Value} {b₀ : Frame} {a₀ : Act} {ops₀ : Array Oper} {i₀ : Nat} {rest₀ : List Nat} {k₀ : List Item} {cs : List Frame}
theorem info183 : ∃ i0,Try.prog.info? 183 = some i0 ∧ i0.zero = some (.agg #[.int .i64 0,.pointer none]) ∧ i0.size = 2 ∧ i0.bytes = 16:=by
 have h3 : (Try.prog.info? 183).map (fun i=>(i.zero,i.size,i.bytes)) = some (some (.agg #[.int .i64 0,.pointer none]),2,16):=by kernel_rfl
 cases e : Try.prog.info? 183 with
 | none=>rw [e] at h3; cases h3
 | some i0=>rw [e] at h3; exact ⟨i0,rfl,by simpa using h3⟩
theorem lt_r1 {bx : Nat} {T : Array Value} {kt : List Item} {cs0 : List Frame} (hn : norm V = V) (hbx : V.heap[bx]? = some (.cells #[.int .i64 (x : Int),.pointer m1] 183 (0,0))) (hcb : V.heap[cb]? = some (.cells #[cv] 102 (0,0))) (hq : Qu V 183 2 cv n q) (hn9 : n < 100000000) (hqb : cv.ownBlock ≠ some bx) (hqc : cv.ownBlock ≠ some cb) (hT : TLt T cb bx)
   (K : ∀ T' V' cv',PuW V cb cv n q x (.pointer m1) V' cv' → Will Try.prog main Z Stop (G ((base 94).at ⟨T',[]⟩ kt) cs0) V') :
   Will Try.prog main Z Stop (G ((base 94).at ⟨T,[]⟩ (.code R94b :: kt)) cs0) V:=by
 refine will_code (L:=Lone) (R:=fun a' V'=>∃ cv',PuW V cb cv n q x (.pointer m1) V' cv') calm rfl ⟨_,Try.func94⟩ rfl (by kernel_rfl) (fun τ=>?_) fun a' V' ⟨cv',h1⟩ ha'=>?_
 · clear K
   obtain ⟨hs,t0,t3⟩:=hT
   obtain ⟨f,hf,hT⟩:=array14f T hs
   rw [hT]
   simp only [hf _ _ t0,hf _ _ t3]
   clear hf hs t0 t3
   subst hT
   simp only [R94b,nvb,Try.f94,Option.getD_some]
   have c0 : V.cell? ⟨cb,0,none⟩ = some cv:=cell_of hcb (by simp)
   have z0 : V.frozen? ⟨cb,0,none⟩ = false:=by simp [World.frozen?,hcb]
   have d0 : V.cell? ⟨bx,0,none⟩ = some (.int .i64 (x : Int)):=cell_of hbx (by simp)
   have d1 : V.cell? ⟨bx,1,none⟩ = some (.pointer m1):=cell_of hbx (by simp)
   have hlb : cb < V.heap.size:=cell_lt c0
   have hlx : bx < V.heap.size:=cell_lt d0
   have hne : bx ≠ cb:=fun e=>by rw [e,hcb] at hbx; cases hbx
   have hrlt : ∀ b,cv.ownBlock = some b → b < V.heap.size:=fun b hb=>hq.at_ hb
   obtain ⟨vx,vc,hv⟩:=hq.sl
   simp only [bq]
   refine wp_region_g (SLt cb bx x cv (.pointer m1)) (by kernel_rfl) ?_
   simp only [List.size_toArray,List.length_cons,List.length_nil,Nat.reduceAdd,Nat.zero_add,Array.replicate_succ,Array.replicate_zero,List.push_toArray,List.nil_append,List.cons_append]
   generalize hw0 : ({ re V τ 0 with drawn:=(re V τ 0).drawn + 1 } : World) = w0
   have hh : w0.heap = V.heap:=by rw [← hw0]; rfl
   have hnw : w0.heap.size = V.heap.size:=by rw [hh]
   have SK : ∀ (w : World) (l : Array Bool),w.heap[bx]? = V.heap[bx]? → (l.getD 10 false = false → w.heap[cb]? = V.heap[cb]?) → SLt cb bx x cv (.pointer m1) l w:=fun w l h1 h2=>⟨⟨cell_keep d0 h1,cell_keep d1 h1⟩,fun h=>cell_keep c0 (h2 h)⟩
   have S0 : ∀ l,SLt cb bx x cv (.pointer m1) l w0:=fun l=>SK w0 l (by rw [hh]) fun _=>by rw [hh]
   clear hw0
   refine wpAnyG_take (i:=0) (v:=.pointer (some ⟨cb,0,none⟩)) rfl (by kernel_rfl) (by kernel_rfl) (by kernel_rfl) (by kernel_rfl) (fun _ _ _ h=>h) (fun l w=>by simp only [SLt,set_iff (i:=0) (j:=10) (by decide)]) (Or.inl ⟨by rfl,fun w5 hS5=>by go_simp⟩) (S0 _) ?_
   walk_nrm
   refine wpAnyG_take (i:=1) (v:=.pointer (some ⟨cb,0,none⟩)) rfl (by kernel_rfl) (by kernel_rfl) (by kernel_rfl) (by kernel_rfl) (fun _ _ _ h=>h) (fun l w=>by simp only [SLt,set_iff (i:=1) (j:=10) (by decide)]) (Or.inl ⟨by rfl,fun w5 hS5=>by go_simp⟩) (S0 _) ?_
   walk_nrm
   refine wpAnyG_take (i:=2) (v:=.pointer (some ⟨cb,0,none⟩)) rfl (by kernel_rfl) (by kernel_rfl) (by kernel_rfl) (by kernel_rfl) (fun _ _ _ h=>h) (fun l w=>by simp only [SLt,set_iff (i:=2) (j:=10) (by decide)]) (Or.inl ⟨by rfl,fun w5 hS5=>by go_simp⟩) (S0 _) ?_
   walk_nrm
   refine wpAnyG_take (i:=3) (v:=.pointer (some ⟨cb,0,none⟩)) rfl (by kernel_rfl) (by kernel_rfl) (by kernel_rfl) (by kernel_rfl) (fun _ _ _ h=>h) (fun l w=>by simp only [SLt,set_iff (i:=3) (j:=10) (by decide)]) (Or.inl ⟨by rfl,fun w5 hS5=>by go_simp⟩) (S0 _) ?_
   walk_nrm
   refine wpAnyG_take (i:=4) (v:=cv) rfl (by kernel_rfl) (by kernel_rfl) (by kernel_rfl) (by kernel_rfl) (fun _ _ _ h=>h) (fun l w=>by simp only [SLt,set_iff (i:=4) (j:=10) (by decide)]) (Or.inl ⟨by rfl,fun w5 hS5=>by obtain ⟨l5,⟨⟨y0,y1⟩,x1⟩,x2,x3⟩:=hS5; have x4:=x1 (reach_off x2 x3 (n:=20) (m:=10) (by kernel_rfl)).1; rw [hv] at x4 ⊢; go_simp⟩) (S0 _) ?_
   walk_nrm
   refine wpAnyG_take (i:=5) (v:=.agg #[.int .i64 (x : Int),.pointer m1]) rfl (by kernel_rfl) (by kernel_rfl) (by kernel_rfl) (by kernel_rfl) (fun _ _ _ h=>h) (fun l w=>by simp only [SLt,set_iff (i:=5) (j:=10) (by decide)]) (Or.inl ⟨by rfl,fun w5 hS5=>by obtain ⟨l5,⟨⟨y0,y1⟩,x1⟩,x2,x3⟩:=hS5; go_simp⟩) (S0 _) ?_
   walk_nrm
   refine wpAnyG_all (rs:=[6]) (by kernel_rfl) (by simp) (fun j hj=>?_)
   obtain rfl : j = 6:=by simpa using hj
   obtain ⟨w1,hw1⟩ : ∃ y,y = w0.alloc (.cells #[.int .i64 (x : Int),.pointer m1] 183):=⟨_,rfl⟩
   have k1 : ∀ b,b < V.heap.size → w1.heap[b]? = V.heap[b]?:=fun b hb=>by rw [hw1,alloc_get,if_neg (by omega),hh]
   have s1 : w1.heap.size = V.heap.size + 1:=by rw [hw1,alloc_size]; omega
   have e1 : w1.heap[w0.heap.size]? = some (.cells #[.int .i64 (x : Int),.pointer m1] 183 (0,0)):=by rw [hw1,alloc_get,if_pos rfl]
   refine wpOp_val (v:=.slice (some ⟨w0.heap.size,0,none⟩) 1 1) (w':=w1) rfl rfl (by go_simp; first | done | exact ⟨by first | rfl | assumption | (simp only [re]; omega),hw1.symm⟩ | exact hw1.symm) ⟨SK w1 _ (k1 _ hlx) fun _=>k1 _ hlb,?_⟩
   walk_nrm
   obtain ⟨i0,hi0,hz0,hz1,hz2⟩:=info183
   obtain ⟨v3,w3,a1,v3r,v3s,v3k,v3o⟩:=qu_push (P:=Try.prog) (t:=98) (c:=1) Try.underlying98 hi0 hz0 hz1 hz2 rfl (by decide) (by decide) (w:=w1) (b:=w0.heap.size) (news:=#[.int .i64 (x : Int),.pointer m1]) (hq.keep fun b hb=>k1 b (hrlt b hb)) e1 rfl (by simp [Value.oneCell']) (by omega)
   have k3 : ∀ b,b < V.heap.size → cv.ownBlock ≠ some b → w3.heap[b]? = V.heap[b]?:=fun b hb hne=>(v3k b (by omega) hne).trans (k1 b hb)
   refine wpAnyG_all (rs:=[7]) (by kernel_rfl) (by simp) (fun j hj=>?_)
   obtain rfl : j = 7:=by simpa using hj
   refine wpOp_val (v:=v3) (w':=w3) rfl rfl (run_app_opm (s:=.tmp 8) (x:=.tmp 10) rfl rfl rfl a1) ⟨SK w3 _ (k3 _ hlx hqb) fun _=>k3 _ hlb hqc,?_⟩
   walk_nrm
   have g1 : w3.cell? ⟨cb,0,none⟩ = some cv:=cell_keep c0 (k3 _ hlb hqc)
   have g2 : w3.frozen? ⟨cb,0,none⟩ = false:=froz_kept z0 (k3 _ hlb hqc)
   have g3 : w3.heap[cb]? = some (.cells #[cv] 102 (0,0)):=(k3 _ hlb hqc).trans hcb
   have hs3 : V.heap.size ≤ w3.heap.size:=by omega
   obtain ⟨yx,yc,hy⟩:=v3r.sl
   rw [hv] at g1
   refine wpAnyG_all (rs:=[8]) (by kernel_rfl) (by simp) (fun j hj=>?_)
   obtain rfl : j = 8:=by simpa using hj
   refine wpOp_val (v:=.pointer (some ⟨cb,0,none⟩)) (w':=w3) rfl rfl (by go_simp) ⟨SK w3 _ (k3 _ hlx hqb) fun _=>k3 _ hlb hqc,?_⟩
   walk_nrm
   refine wpAnyG_all (rs:=[9]) (by kernel_rfl) (by simp) (fun j hj=>?_)
   obtain rfl : j = 9:=by simpa using hj
   refine wpOp_val (v:=.pointer (some ⟨cb,0,none⟩)) (w':=w3) rfl rfl (by go_simp) ⟨SK w3 _ (k3 _ hlx hqb) fun _=>k3 _ hlb hqc,?_⟩
   walk_nrm
   refine wpAnyG_all (rs:=[10]) (by kernel_rfl) (by simp) (fun j hj=>?_)
   obtain rfl : j = 10:=by simpa using hj
   have o3 : v3.ownBlock = cv.ownBlock ∨ ∃ b,v3.ownBlock = some b ∧ V.heap.size ≤ b:=v3o.imp id fun h=>⟨_,h,by omega⟩
   have q3 : v3.ownBlock ≠ some cb:=by
     rcases o3 with h | ⟨b,h,hb⟩
     · rw [h]; exact hqc
     · rw [h]; intro e; have:=Option.some.inj e; omega
   refine wpOp_skip (w':=w3.setCell ⟨cb,0,none⟩ v3) rfl rfl (by subst hy; go_simp) ⟨⟨⟨cell_keep d0 ((set_off _ _ hne).trans (k3 _ hlx hqb)),cell_keep d1 ((set_off _ _ hne).trans (k3 _ hlx hqb))⟩,fun h=>absurd h (by decide)⟩,?_⟩
   walk_nrm
   refine wpAnyG_done (by kernel_rfl) ⟨⟨v3,rfl,?_,?_,?_,fun b hb hne hv=>?_,o3⟩,rfl⟩ _
   · show (w3.setCell ⟨cb,0,none⟩ v3).heap[cb]? = _
     rw [setCell_heap,if_pos rfl,g3]
     simp
   · exact Qu.keep (w:=w3) v3r fun b hb=>set_off _ _ (fun e=>q3 (by rw [← e]; exact hb))
   · show V.heap.size ≤ (w3.setCell ⟨cb,0,none⟩ v3).heap.size
     simpa [World.setCell] using hs3
   · exact (set_off _ _ hne).trans (k3 b hb hv)
 · obtain ⟨T',df⟩:=a'
   simp only at ha'
   subst ha'
   exact K T' V' cv' h1
theorem will_push (hn : norm V = V) (hcb : V.heap[cb]? = some (.cells #[cv] 102 (0,0))) (hq : Qu V 183 2 cv n q) (hn9 : n < 100000000) (hqc : cv.ownBlock ≠ some cb)
   (K : ∀ V' cv',PuW V cb cv n q x (.pointer m1) V' cv' → Will Try.prog main Z Stop (G (b₀.at (a₀.put ((ops₀[i₀]?).bind (·.dst)) (.tuple #[])) (.inRegion ops₀ rest₀ :: k₀)) cs) V') :
   Will Try.prog main Z Stop (G (Frame.enter Try.prog 94 #[.pointer (some ⟨cb,0,none⟩),.agg #[.int .i64 (x : Int),.pointer m1]] .normal) (b₀.at a₀ (.inRegion ops₀ (i₀ :: rest₀) :: k₀) :: cs)) V:=by
 have e94 : Try.f94.body = some (.seq R94a R94b):=by kernel_rfl
 have hK0:=K
 clear K
 rw [enter_at (P:=Try.prog) _ Try.func94 e94]
 refine mu_seq mu_will ?_
 clear e94
 have hnt : Try.f94.ntmps = 14:=rfl
 rw [hnt]
 clear hnt
 generalize hX0 : R94a = X0
 simp only [R94a,nva,Try.f94,Option.getD_some] at hX0
 subst hX0
 walk_nrm
 obtain ⟨K,hK,hV,key,yek⟩:=kKV (L:=Lone) (J:=fun g=>Will Try.prog main Z Stop g V) mu_will (muv_will hn)
 refine key _ ?_
 refine mu_regionH hK (fun kk hkk=>?_)
 simp only [List.size_toArray,List.length_cons,List.length_nil,Nat.reduceAdd,Nat.zero_add,List.range,List.range.loop]
 refine yek _ ?_
 clear hK hV key yek K
 have hnA : norm (V.alloc (.cells #[.int .i64 (x : Int),.pointer m1] 183)) = (V.alloc (.cells #[.int .i64 (x : Int),.pointer m1] 183)):=norm_al hn _
 refine mua_put (L:=Lone) (v:=.pointer (some ⟨V.heap.size,0,none⟩)) (mua_will hnA) (K:=fun g=>Will Try.prog main Z Stop g V) (K':=fun g=>Will Try.prog main Z Stop g (V.alloc (.cells #[.int .i64 (x : Int),.pointer m1] 183))) rfl (.inl rfl) rfl (by kernel_rfl) (fun τ=>?_) ?_
 · go_simp
   first | exact ⟨by first | rfl | assumption | (simp only [re]; omega),rfl⟩ | rfl | (simp; done)
 have eA : (V.alloc (.cells #[.int .i64 (x : Int),.pointer m1] 183)).heap[V.heap.size]? = some (.cells #[.int .i64 (x : Int),.pointer m1] 183 (0,0)):=by rw [al_get,if_pos rfl]
 have sA : (V.alloc (.cells #[.int .i64 (x : Int),.pointer m1] 183)).heap.size = V.heap.size + 1:=by rw [al_size]
 have kA : ∀ b,b < V.heap.size → (V.alloc (.cells #[.int .i64 (x : Int),.pointer m1] 183)).heap[b]? = V.heap[b]?:=fun b hb=>by rw [al_get,if_neg (by omega)]
 generalize (V.alloc (.cells #[.int .i64 (x : Int),.pointer m1] 183)) = VA at *
 generalize hbx : V.heap.size = bx at *
 walk_nrm
 refine mu_region_end mu_will ?_
 subst hkk
 have hlb : cb < bx:=by rw [← hbx]; exact (Array.getElem?_eq_some_iff.1 hcb).1
 refine lt_r1 (bx:=bx) hnA eA ((kA cb hlb).trans hcb) (hq.keep fun b hb=>kA b (by rw [← hbx]; exact hq.at_ hb)) hn9 (fun e=>by have:=hq.at_ e; omega) hqc ⟨by simp,rfl,rfl⟩ fun T' V' cv' h=>?_
 refine mu_end mu_will ?_
 refine mu_leave0 mu_will rfl rfl Try.func94 rfl ?_
 refine hK0 V' cv' ⟨h.nrm,h.c,h.qu,by have:=h.sz; omega,fun b hb h1 h2=>(h.keep b (by omega) h1 h2).trans (kA b (by omega)),h.own.imp id fun h=>?_⟩
 obtain ⟨b,h1,h2⟩:=h
 exact ⟨b,h1,by omega⟩
end
end Go.Proofs.Ytibcdikfbhmheaa

namespace Go.Proofs.Ytibcdikfbhmheaa
open Go Go.Conc Go.Proofs
open Go.RowKit
open Go.ConcN (sumTo upd sumTo_upd upd_ne upd_same)
set_option linter.unusedVariables false
def wts (mb : Nat) (cq : List Nat) : List Value:=cq.flatMap fun (x : Nat)=>[.int .i64 (x : Int),.pointer (some ⟨mb,0,none⟩)]
theorem wts_cons (mb x : Nat) (cq : List Nat) : wts mb (x :: cq) = [.int .i64 (x : Int),.pointer (some ⟨mb,0,none⟩)] ++ wts mb cq:=rfl
theorem wts_snoc (mb x : Nat) (cq : List Nat) : wts mb (cq ++ [x]) = wts mb cq ++ [.int .i64 (x : Int),.pointer (some ⟨mb,0,none⟩)]:=by simp [wts]
theorem res_ct {fn : Func} {tmps : Array Value} {w : World} {g : Nat} {x y : Value} (h : fn.results = #[.cell 2 183,.tmp 3]) (ht : tmps.getD 2 undef = .pointer (some ⟨g,0,none⟩)) (c0 : w.cell? ⟨g,0,none⟩ = some x) (c1 : w.cell? ⟨g,1,none⟩ = some y) : (results fn tmps).run Try.prog w = .ok (.tuple #[.agg #[x,y],tmps.getD 3 undef]) w:=by
 unfold results
 rw [h]
 simp only [List.mapM_toArray,List.mapM_cons,List.mapM_nil,Sem.run_bind,ht]
 go_simp
theorem al2_get (w : World) (o o' : Obj) {g : Nat} (h : g = w.heap.size) : ((w.alloc o).alloc o').heap[g]? = some o:=by
 subst h
 rw [alloc_get,if_neg (by rw [alloc_size]; omega),alloc_get,if_pos rfl]
theorem al1_kp (w : World) (o : Obj) : Kp w (w.alloc o):=⟨by rw [alloc_size]; omega,fun b hb=>by rw [alloc_get,if_neg (by omega)]⟩
theorem al2_kp (w : World) (o o' : Obj) : Kp w ((w.alloc o).alloc o'):=⟨by rw [alloc_size,alloc_size]; omega,fun b hb=>by rw [alloc_get,if_neg (by rw [alloc_size]; omega),alloc_get,if_neg (by omega)]⟩
theorem pop130 (cb : Nat) (cv : Value) (x : Int) (m1 : Option Addr) (q : List Value) (w : World) (hc : w.cell? ⟨cb,0,none⟩ = some cv) (hf : w.frozen? ⟨cb,0,none⟩ = false) (n : Nat) (h : Qu w 183 2 cv (n + 1) ([.int .i64 x,.pointer m1] ++ q)) : Calls Try.prog 130 #[.pointer (some ⟨cb,0,none⟩)] w fun e w'=>e = .returned (.tuple #[.agg #[.int .i64 x,.pointer m1],.bool true]) ∧ Kp (w.setCell ⟨cb,0,none⟩ (cdr 2 cv)) w':=by
 obtain ⟨g,o,cap,rfl,hnc,hx,-,-⟩:=Qu.pop (x:=[.int .i64 x,.pointer m1]) h rfl (by decide)
 have hx0 : w.cell? ⟨g,o,none⟩ = some (.int .i64 x):=hx 0 _ rfl
 have hx1 : w.cell? ⟨g,o + 1,none⟩ = some (.pointer m1):=hx 1 _ rfl
 have hlt:=cell_lk hc
 have hlg : g < w.heap.size:=cell_lk hx0
 rw [cdr_mk]
 clear hx h
 go_enter Try.func130,Try.ntmps130
 go_wp2
 all_goals
   refine bodyPost_ret (res_ct (x:=.int .i64 x) (y:=.pointer m1) rfl rfl ?_ ?_) rfl ⟨rfl,?_⟩
   · exact cell_of (v:=.int .i64 x) (al2_get _ _ _ (by simp [World.setCell])) (by simp)
   · exact cell_of (v:=.pointer m1) (al2_get _ _ _ (by simp [World.setCell])) (by simp)
   · exact al2_kp _ _ _
theorem pop130n (cb : Nat) (w : World) (b : Option Addr) (c : Nat) (hc : w.cell? ⟨cb,0,none⟩ = some (.slice b 0 c)) : Calls Try.prog 130 #[.pointer (some ⟨cb,0,none⟩)] w fun e w'=>e = .returned (.tuple #[.agg #[.int .i64 0,.pointer none],.bool false]) ∧ Kp w w':=by
 have hlt:=cell_lk hc
 go_enter Try.func130,Try.ntmps130
 go_wp2
 all_goals
   refine bodyPost_ret (res_ct (x:=.int .i64 0) (y:=.pointer none) rfl rfl ?_ ?_) rfl ⟨rfl,?_⟩
   · exact cell_of (v:=.int .i64 0) (al2_get _ _ _ rfl) (by simp)
   · exact cell_of (v:=.pointer none) (al2_get _ _ _ rfl) (by simp)
   · exact al2_kp _ _ _
structure BcI (w0 : World) (qv0 cv0 : Value) (mb cb ow : Nat) (q : List Nat) (qv : Value) (cq : List Nat) (cv : Value) (w : World) : Prop where
 c0 : w.cell? ⟨mb,0,none⟩ = some qv
 z0 : w.frozen? ⟨mb,0,none⟩ = false
 c1 : w.cell? ⟨mb,1,none⟩ = some (.int .i64 (ow : Int))
 z1 : w.frozen? ⟨mb,1,none⟩ = false
 qu : Qu w 3 1 qv q.length (ints q)
 d0 : w.cell? ⟨cb,0,none⟩ = some cv
 y0 : w.frozen? ⟨cb,0,none⟩ = false
 cu : Qu w 183 2 cv cq.length (wts mb cq)
 ne : mb ≠ cb
 qm : qv.ownBlock ≠ some mb
 qc : qv.ownBlock ≠ some cb
 cm : cv.ownBlock ≠ some mb
 cc : cv.ownBlock ≠ some cb
 sz : w0.heap.size ≤ w.heap.size
 keep : ∀ b,b < w0.heap.size → b ≠ mb → b ≠ cb → qv0.ownBlock ≠ some b → w.heap[b]? = w0.heap[b]?
 qo : qv.ownBlock = qv0.ownBlock ∨ ∃ b,qv.ownBlock = some b ∧ w0.heap.size ≤ b
 co : cv.ownBlock = cv0.ownBlock
 ec : w.heap[cb]? = some (.cells #[cv] 102 (0,0))
section
variable {w0 w w' : World} {qv0 cv0 qv cv : Value} {mb cb ow : Nat} {q cq : List Nat}
theorem qu_ne {w : World} {e e' : TypeId} {sz sz' n n' : Nat} {v v' : Value} {q q' : List Value} (h : Qu w e sz v n q) (h' : Qu w e' sz' v' n' q') (hne : e ≠ e') {b : Nat} (hb : v.ownBlock = some b) : v'.ownBlock ≠ some b:=fun hb'=>by
 obtain ⟨_,⟨rfl,_⟩ | ⟨g,o,c,cur,rfl,hg,_⟩⟩:=h
 · cases hb
 · obtain ⟨_,⟨rfl,_⟩ | ⟨g',o',c',cur',rfl,hg',_⟩⟩:=h'
   · cases hb'
   · obtain rfl : g = b:=by simpa [Value.ownBlock] using hb
     obtain rfl : g' = g:=by simpa [Value.ownBlock] using hb'
     rw [hg] at hg'
     have:=Option.some.inj hg'
     injection this with _ h2 _
     exact hne h2
theorem BcI.kp (h : BcI w0 qv0 cv0 mb cb ow q qv cq cv w) (k : Kp w w') : BcI w0 qv0 cv0 mb cb ow q qv cq cv w':=by
 have e1:=k.keep mb (cell_lk h.c0)
 have e2:=k.keep cb (cell_lk h.d0)
 exact ⟨cell_kept h.c0 e1,froz_kept h.z0 e1,cell_kept h.c1 e1,froz_kept h.z1 e1,h.qu.keep fun b hb=>k.keep b (h.qu.at_ hb),cell_kept h.d0 e2,froz_kept h.y0 e2,h.cu.keep fun b hb=>k.keep b (h.cu.at_ hb),h.ne,h.qm,h.qc,h.cm,h.cc,Nat.le_trans h.sz k.size,fun b hb a1 a2 a3=>(k.keep b (Nat.lt_of_lt_of_le hb h.sz)).trans (h.keep b hb a1 a2 a3),h.qo,h.co,e2.trans h.ec⟩
theorem BcI.pop {x : Nat} (h : BcI w0 qv0 cv0 mb cb ow q qv (x :: cq) cv w) : BcI w0 qv0 cv0 mb cb ow q qv cq (cdr 2 cv) (w.setCell ⟨cb,0,none⟩ (cdr 2 cv)):=by
 have hcu:=h.cu
 rw [wts_cons] at hcu
 obtain ⟨g,o,cap,e,_,_,h1,h2⟩:=Qu.pop (x:=[.int .i64 (x : Int),.pointer (some ⟨mb,0,none⟩)]) (q:=wts mb cq) (n:=cq.length) (sz:=2) hcu rfl (by decide)
 have hoff : ∀ b,b ≠ cb → (w.setCell ⟨cb,0,none⟩ (cdr 2 cv)).heap[b]? = w.heap[b]?:=fun b hb=>set_off _ _ hb
 refine ⟨cell_kept h.c0 (hoff mb h.ne),froz_kept h.z0 (hoff mb h.ne),cell_kept h.c1 (hoff mb h.ne),froz_kept h.z1 (hoff mb h.ne),h.qu.keep fun b hb=>hoff b (fun e=>h.qc (e ▸ hb)),set_at h.d0 h.y0,by rw [froz_set]; exact h.y0,h1.keep fun b hb=>hoff b (fun e2=>h.cc (by rw [← h2,hb,e2])),h.ne,h.qm,h.qc,by rw [h2]; exact h.cm,by rw [h2]; exact h.cc,by simpa [World.setCell] using h.sz,fun b hb a1 a2 a3=>(hoff b a2).trans (h.keep b hb a1 a2 a3),h.qo,h2.trans h.co,by rw [setCell_heap,if_pos rfl,h.ec]; simp⟩
theorem BcI.ask {x : Nat} (h : BcI w0 qv0 cv0 mb cb ow q qv cq cv w) {v' : Value} {w1 : World} (h1 : Qu w1 3 1 v' (q.length + 1) (ints q ++ [.int .i64 (x : Int)])) (h2 : w.heap.size ≤ w1.heap.size) (h3 : ∀ b,b < w.heap.size → qv.ownBlock ≠ some b → w1.heap[b]? = w.heap[b]?) (h4 : v'.ownBlock = qv.ownBlock ∨ ∃ b,v'.ownBlock = some b ∧ w.heap.size ≤ b) : BcI w0 qv0 cv0 mb cb ow (q ++ [x]) v' cq cv (w1.setCell ⟨mb,0,none⟩ v'):=by
 have hmb:=cell_lk h.c0
 have hcb:=cell_lk h.d0
 have e1:=h3 mb hmb h.qm
 have e2:=h3 cb hcb h.qc
 have hoff : ∀ b,b ≠ mb → (w1.setCell ⟨mb,0,none⟩ v').heap[b]? = w1.heap[b]?:=fun b hb=>set_off _ _ hb
 have hv : ∀ b,v'.ownBlock = some b → b < w.heap.size → qv.ownBlock = some b:=fun b hb hlt=>by
   rcases h4 with h | ⟨b',h,hge⟩
   · rw [← h]; exact hb
   · rw [h] at hb; have:=Option.some.inj hb; omega
 have q1 : v'.ownBlock ≠ some mb:=fun e=>h.qm (hv mb e hmb)
 have q2 : v'.ownBlock ≠ some cb:=fun e=>h.qc (hv cb e hcb)
 have d2:=(hoff cb (fun e=>h.ne e.symm)).trans e2
 have eq : ints q ++ [.int .i64 (x : Int)] = ints (q ++ [x]):=by simp [ints]
 rw [eq] at h1
 have c1' : (w1.setCell ⟨mb,0,none⟩ v').cell? ⟨mb,1,none⟩ = some (.int .i64 (ow : Int)):=by
   rw [cell_set_ne _ _ (by decide)]; exact cell_kept h.c1 e1
 refine ⟨set_at (cell_kept h.c0 e1) (froz_kept h.z0 e1),by rw [froz_set]; exact froz_kept h.z0 e1,c1',by rw [froz_set]; exact froz_kept h.z1 e1,?_,cell_kept h.d0 d2,froz_kept h.y0 d2,h.cu.keep fun b hb=>(hoff b (fun e=>h.cm (e ▸ hb))).trans (h3 b (h.cu.at_ hb) (qu_ne h.cu h.qu (by decide) hb)),h.ne,q1,q2,h.cm,h.cc,?_,fun b hb a1 a2 a3=>?_,?_,h.co,d2.trans h.ec⟩
 · rw [List.length_append,List.length_singleton]
   exact Qu.keep (w:=w1) h1 fun b hb=>hoff b (fun e=>q1 (e ▸ hb))
 · have : (w1.setCell ⟨mb,0,none⟩ v').heap.size = w1.heap.size:=by simp [World.setCell]
   have:=h.sz
   omega
 · have hs:=h.sz
   rw [hoff b a1,h3 b (by omega) (fun e=>?_)]
   · exact h.keep b hb a1 a2 a3
   · rcases h.qo with h5 | ⟨b',h5,hge⟩
     · exact a3 (h5 ▸ e)
     · rw [h5] at e; have:=Option.some.inj e; omega
 · rcases h4 with h5 | ⟨b,h5,hge⟩
   · rw [h5]; exact h.qo
   · right; exact ⟨b,h5,Nat.le_trans h.sz hge⟩
end
theorem tell95 {w0 w : World} {qv0 cv0 qv cv tp : Value} {mb cb ow x : Nat} {q cq : List Nat} (h : BcI w0 qv0 cv0 mb cb ow q qv (x :: cq) cv w) (how : ow ≠ 0) (hx : x < 1000) (hq : q.length < 1000000) : Calls Try.prog 95 #[.pointer (some ⟨cb,0,none⟩),tp] w fun e w'=>e = .returned (.bool true) ∧ ∃ qv' cv',BcI w0 qv0 cv0 mb cb ow (q ++ [x]) qv' cq cv' w':=by
 have hcu:=h.cu
 rw [wts_cons] at hcu
 have PO:=Lib.hid (pop130 cb cv (x : Int) (some ⟨mb,0,none⟩) (wts mb cq) w h.d0 h.y0 cq.length hcu)
 have hlt:=cell_lk h.d0
 have HP:=h.pop
 obtain ⟨vb,vc,hqv⟩:=h.qu.sl
 have AS : ∀ w2,BcI w0 qv0 cv0 mb cb ow q qv cq (cdr 2 cv) w2 → Calls Try.prog 91 #[.pointer (some ⟨mb,0,none⟩),.int .i64 (x : Int)] w2 fun e w'=>e = .returned (.bool false) ∧ ∃ qv',BcI w0 qv0 cv0 mb cb ow (q ++ [x]) qv' cq (cdr 2 cv) w':=fun w2 H=>by
   have H1:=H.c0
   have H2:=H.qu
   have H3:=H.qm
   rw [hqv] at H1 H2 H3
   refine (ask91 mb 0 x w2 vb q.length vc (ow : Int) (ints q) H1 H.z0 H.c1 H.z1 H2 (by omega) hx H3).mono fun e w' hh=>?_
   rcases hh with ⟨h0,_⟩ | ⟨_,rfl,v',w1,rfl,k1,k2,k3,k4⟩
   · exact absurd h0 (by omega)
   · exact ⟨rfl,v',H.ask k1 k2 (by rw [hqv]; exact k3) (by rw [hqv]; exact k4)⟩
 have AS':=Lib.hid AS
 have HP':=Lib.hid HP
 clear AS HP h hcu hqv
 go_enter Try.func95,Try.ntmps95
 go_wp2_with (first
   | (go_at_call 130
      refine PO.out.mono ?_
      rintro e w1 ⟨rfl,k1⟩
      have hs1 : w.heap.size ≤ w1.heap.size:=by have:=k1.size; simpa [World.setCell] using this
      have HB:=Lib.hid (HP'.out.kp k1)
      clear k1))
 refine (AS'.out _ (HB.out.kp (al1_kp _ _))).mono ?_
 rintro e w3 ⟨rfl,H3⟩
 replace H3:=Lib.hid H3
 go_wp2
 go_ret
 obtain ⟨qv',H⟩:=H3.out
 exact ⟨rfl,qv',_,H⟩
theorem tell95n {w0 w : World} {qv0 cv0 qv cv tp : Value} {mb cb ow : Nat} {q : List Nat} (h : BcI w0 qv0 cv0 mb cb ow q qv [] cv w) : Calls Try.prog 95 #[.pointer (some ⟨cb,0,none⟩),tp] w fun e w'=>e = .returned (.bool false) ∧ BcI w0 qv0 cv0 mb cb ow q qv [] cv w':=by
 obtain ⟨vb,vc,rfl⟩:=h.cu.sl
 have PO:=Lib.hid (pop130n cb w vb vc h.d0)
 have hlt:=cell_lk h.d0
 have HH:=Lib.hid h
 clear h
 go_enter Try.func95,Try.ntmps95
 go_wp2_with (first
   | (go_at_call 130
      refine PO.out.mono ?_
      rintro e w1 ⟨rfl,k1⟩
      have hs1 : w.heap.size ≤ w1.heap.size:=k1.size
      have HB:=Lib.hid (HH.out.kp k1)
      clear k1))
 go_ret
 exact ⟨rfl,HB.out.kp (al1_kp _ _)⟩
end Go.Proofs.Ytibcdikfbhmheaa

namespace Go.Proofs.Ytibcdikfbhmheaa
open Go Go.Conc Go.Proofs
open Go.ConcN (sumTo upd sumTo_upd upd_ne upd_same)
set_option linter.unusedVariables false
section
variable {K : Goroutine → Prop} {V : World} {tb rb kb : Nat} {b₀ : Frame} {a₀ : Act} {ops₀ : Array Oper} {i₀ : Nat} {rest₀ : List Nat} {k₀ : List Item} {cs0 : List Frame}
theorem own47b (hK : Mu Try.prog (fun _=>True) K) (hV : MuV Try.prog Lone V K) (hc : ∀ τ,(re V τ 0).cell? ⟨rb,1,none⟩ = some (.int .i64 0)) (h : K (G (b₀.at (a₀.put ((ops₀[i₀]?).bind (·.dst)) (.int .i64 (-1))) (.inRegion ops₀ rest₀ :: k₀)) cs0)) :
   K (G (Frame.enter Try.prog 47 #[.pointer (some ⟨rb,0,none⟩)] .normal) (b₀.at a₀ (.inRegion ops₀ (i₀ :: rest₀) :: k₀) :: cs0)):=by
 rw [enter_at (P:=Try.prog) _ Try.func47 rfl]
 simp only [Try.f47]
 walk_nrm
 repeat (first|(with_reducible first|refine mu_seq hK ?_|refine mu_skip hK ?_|(refine mu_region_end hK ?_;try subst hkk)|refine mu_block hK ?_|refine mu_inBlock hK ?_|refine mu_ret hK ?_|refine mu_end hK ?_)|refine mu_exit hK rfl ?_|(with_reducible refine mu_regionH hK (fun kk hkk=>?_);simp only [List.size_toArray,List.length_cons,List.length_nil,Nat.reduceAdd,Nat.zero_add,List.range,List.range.loop])|(with_reducible refine mu_cf hK ?_ ?_;(· first|(walk_nrm;done)|(simp [Act.eval];done)))|(with_reducible refine mu_ct hK ?_ ?_;(· first|(walk_nrm;done)|(simp [Act.eval];done)))|(refine mu_unwanted hK rfl rfl ?_;walk_nrm)|(refine muv_val hV rfl (by first|exact .inl rfl|exact .inr rfl) rfl (by kernel_rfl) (fun J hJ=>?_);go_simp;with_reducible refine hJ _ ?_;clear hJ J;walk_nrm))
 refine mu_leave1 hK rfl rfl Try.func47 rfl ?_
 exact h
theorem wai52c (hK : Mu Try.prog (fun _=>True) K) (hV : MuV Try.prog Lone V K) {sb : Option Addr} {sc : Nat} (hc : ∀ τ,(re V τ 0).cell? ⟨kb,0,none⟩ = some (.slice sb 0 sc)) (h : K (G (b₀.at (a₀.put ((ops₀[i₀]?).bind (·.dst)) (.int .i64 0)) (.inRegion ops₀ rest₀ :: k₀)) cs0)) :
   K (G (Frame.enter Try.prog 52 #[.pointer (some ⟨kb,0,none⟩)] .normal) (b₀.at a₀ (.inRegion ops₀ (i₀ :: rest₀) :: k₀) :: cs0)):=by
 rw [enter_at (P:=Try.prog) _ Try.func52 rfl]
 simp only [Try.f52]
 walk_nrm
 repeat (first|(with_reducible first|refine mu_seq hK ?_|refine mu_skip hK ?_|(refine mu_region_end hK ?_;try subst hkk)|refine mu_block hK ?_|refine mu_inBlock hK ?_|refine mu_ret hK ?_|refine mu_end hK ?_)|refine mu_exit hK rfl ?_|(with_reducible refine mu_regionH hK (fun kk hkk=>?_);simp only [List.size_toArray,List.length_cons,List.length_nil,Nat.reduceAdd,Nat.zero_add,List.range,List.range.loop])|(with_reducible refine mu_cf hK ?_ ?_;(· first|(walk_nrm;done)|(simp [Act.eval];done)))|(with_reducible refine mu_ct hK ?_ ?_;(· first|(walk_nrm;done)|(simp [Act.eval];done)))|(refine mu_unwanted hK rfl rfl ?_;walk_nrm)|(refine muv_val hV rfl (by first|exact .inl rfl|exact .inr rfl) rfl (by kernel_rfl) (fun J hJ=>?_);go_simp;with_reducible refine hJ _ ?_;clear hJ J;walk_nrm))
 refine mu_call hK rfl rfl (by decide) rfl Try.func96 (by kernel_rfl) rfl ?_
 simp only [Try.f96]
 walk_nrm
 repeat (first|(with_reducible first|refine mu_seq hK ?_|refine mu_skip hK ?_|(refine mu_region_end hK ?_;try subst hkk)|refine mu_block hK ?_|refine mu_inBlock hK ?_|refine mu_ret hK ?_|refine mu_end hK ?_)|refine mu_exit hK rfl ?_|(with_reducible refine mu_regionH hK (fun kk hkk=>?_);simp only [List.size_toArray,List.length_cons,List.length_nil,Nat.reduceAdd,Nat.zero_add,List.range,List.range.loop])|(with_reducible refine mu_cf hK ?_ ?_;(· first|(walk_nrm;done)|(simp [Act.eval];done)))|(with_reducible refine mu_ct hK ?_ ?_;(· first|(walk_nrm;done)|(simp [Act.eval];done)))|(refine mu_unwanted hK rfl rfl ?_;walk_nrm)|(refine muv_val hV rfl (by first|exact .inl rfl|exact .inr rfl) rfl (by kernel_rfl) (fun J hJ=>?_);go_simp;with_reducible refine hJ _ ?_;clear hJ J;walk_nrm))
 refine mu_leave1 hK rfl rfl Try.func96 rfl ?_
 walk_nrm
 repeat (first|(with_reducible first|refine mu_seq hK ?_|refine mu_skip hK ?_|(refine mu_region_end hK ?_;try subst hkk)|refine mu_block hK ?_|refine mu_inBlock hK ?_|refine mu_ret hK ?_|refine mu_end hK ?_)|refine mu_exit hK rfl ?_|(with_reducible refine mu_regionH hK (fun kk hkk=>?_);simp only [List.size_toArray,List.length_cons,List.length_nil,Nat.reduceAdd,Nat.zero_add,List.range,List.range.loop])|(with_reducible refine mu_cf hK ?_ ?_;(· first|(walk_nrm;done)|(simp [Act.eval];done)))|(with_reducible refine mu_ct hK ?_ ?_;(· first|(walk_nrm;done)|(simp [Act.eval];done)))|(refine mu_unwanted hK rfl rfl ?_;walk_nrm)|(refine muv_val hV rfl (by first|exact .inl rfl|exact .inr rfl) rfl (by kernel_rfl) (fun J hJ=>?_);go_simp;with_reducible refine hJ _ ?_;clear hJ J;walk_nrm))
 refine mu_leave1 hK rfl rfl Try.func52 rfl ?_
 exact h
end
end Go.Proofs.Ytibcdikfbhmheaa
