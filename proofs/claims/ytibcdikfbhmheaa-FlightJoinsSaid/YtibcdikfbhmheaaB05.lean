import Derived.Test.YtibcdikfbhmheaaB04
set_option linter.unusedSimpArgs false
set_option linter.unusedVariables false
namespace Go.Proofs.Ytibcdikfbhmheaa
open Go Go.Conc
open Go.ConcN (sumTo upd sumTo_upd upd_ne upd_same)
section
variable {P : Program} {E : Env} {Lst : Nat -> Nat -> Goroutine -> Prop} {role : Nat -> Role} {h dh pend : Nat} {V : World} {T : Trace} {gs : Array Goroutine} {w : World} {q : Nat -> Nat}
theorem pz_setChan {Z : Cuts} {w : World} {c lo hi : Nat} (hz : Z c = some (0,lo,hi)) {o : Obj} (ho : w.heap[c]? = some o) (hn : ∀ a b f,o ≠ .cells a b f) (cap : Nat) (buf : Array Value) (cl : Bool) (s r : Nat) (tm : Bool) : pz Z (w.setChan c cap buf cl s r tm) = pz Z w:=by
 have e : (w.setChan c cap buf cl s r tm).heap.mapIdx (fun b o=>pobj (Z b) o) = w.heap.mapIdx fun b o=>pobj (Z b) o:=by
   apply Array.ext_getElem?
   intro b
   rw [Array.getElem?_mapIdx,Array.getElem?_mapIdx]
   by_cases hb : c = b
   . subst hb
     rw [heap_setChan_self w ho,ho,hz]
     cases o <;> first | rfl | exact absurd rfl (hn _ _ _)
   . rw [heap_setChan_ne w _ _ _ _ _ _ hb]
 unfold pz
 rw [e]
 rfl
theorem fit_setChan {Z : Cuts} {w : World} (hf : Fit P Z w) {c lo hi : Nat} (hz : Z c = some (0,lo,hi)) (cap : Nat) (buf : Array Value) (cl : Bool) (s r : Nat) (tm : Bool) : Fit P Z (w.setChan c cap buf cl s r tm):=by
 obtain ⟨c1,c2,c3,c4,c5,c6,hc⟩:=hf.chans c lo hi hz
 have hg:=(hf.cut c _ hz).1
 refine ⟨fun b s' hb=>?_,fun b k lo' hi' hb=>?_,fun b lo' hi' hb=>?_,fun b hb=>?_,hf.bad⟩
 . obtain ⟨g1,o,g2,g3⟩:=hf.cut b s' hb
   refine ⟨g1,?_⟩
   by_cases e : c = b
   . subst e; exact ⟨_,heap_setChan_self w hc _ _ _ _ _ _,.inr ⟨_,_,_,_,_,_,rfl⟩⟩
   . rw [heap_setChan_ne w _ _ _ _ _ _ e]; exact ⟨o,g2,g3⟩
 . have e : c ≠ b:=fun e=>by subst e; rw [hz] at hb; simp at hb
   rw [heap_setChan_ne w _ _ _ _ _ _ e]; exact hf.rows b k lo' hi' hb
 . by_cases e : c = b
   . subst e; exact ⟨_,_,_,_,_,_,heap_setChan_self w hc _ _ _ _ _ _⟩
   . rw [heap_setChan_ne w _ _ _ _ _ _ e]; exact hf.chans b lo' hi' hb
 . have e : c ≠ b:=fun e=>by subst e; omega
   rw [heap_setChan_ne w _ _ _ _ _ _ e]; exact hf.glob b hb
theorem cell_setChan {w : World} {c : Nat} {o : Obj} (ho : w.heap[c]? = some o) (hn : ∀ a b f,o ≠ .cells a b f) (cap : Nat) (buf : Array Value) (cl : Bool) (s r : Nat) (tm : Bool) {a : Addr} {v : Value} (h : w.cell? a = some v) : (w.setChan c cap buf cl s r tm).cell? a = some v:=by
 have e : c ≠ a.block:=fun e=>by
   unfold World.cell? at h
   rw [← e,ho] at h
   cases o <;> first | (simp at h; done) | exact absurd rfl (hn _ _ _)
 unfold World.cell? at *
 rw [heap_setChan_ne w _ _ _ _ _ _ e]
 exact h
theorem KW.setChan {w : World} (hK : KW P E w) {c lo hi : Nat} (hz : E.Z c = some (0,lo,hi)) (cap : Nat) (buf : Array Value) (cl : Bool) (s r : Nat) (tm : Bool) : KW P E (w.setChan c cap buf cl s r tm):=by
 obtain ⟨c1,c2,c3,c4,c5,c6,hc⟩:=hK.1.chans c lo hi hz
 exact ⟨fit_setChan hK.1 hz _ _ _ _ _ _,fun a v ha=>cell_setChan hc (by simp) _ _ _ _ _ _ (hK.2 a v ha)⟩
theorem size_setChan (w : World) (c cap : Nat) (buf : Array Value) (cl : Bool) (s r : Nat) (tm : Bool) : (w.setChan c cap buf cl s r tm).heap.size = w.heap.size:=by simp [World.setChan]
theorem Rg.pass (C : Rg P E Lst role h 0 pend V T gs w q) {j c : Nat} {z : Value} {r : Goroutine} (hjh : j ≠ h) (hj : role j = .seat c z r) {k : Nat} (hc : w.heap[c]? = some (.chan 0 #[] false k k false)) {gs' : Array Goroutine} {T' : Trace} {H' : Goroutine} (hsz : gs'.size = gs.size) (hlt : h < gs.size) (hjlt : j < gs.size)
   (hoth : ∀ x,x ≠ h -> x ≠ j -> gs'[x]? = gs[x]?) (hH : gs'[h]? = some H') (hDeaf : ∀ x,Deaf T' x = Deaf T x) {rh : Role} (hrq : rh ≠ .quit) (hrh : ∀ c' z' r',rh = .seat c' z' r' -> (∃ lo hi,E.Z c' = some (0,lo,hi)) /\ ∀ x z'' r'',role x ≠ .seat c' z'' r'')
   {nh : Nat} (hafter : Idle P E Lst T' h nh H' rh) (hpast : PastR E.still E.shun (fun g=>g = h ∨ isSeat (role g) = true) (fun g=>(g ≠ h /\ isSeat (role g) = true) /\ g ≠ j) w.heap.size j 0 T') :
   Rg P E Lst (upd (upd role h rh) j .fin) j 0 pend V T' gs' (w.setChan c 0 #[] false (k + 1) (k + 1) false) (upd q h nh):=by
 obtain ⟨lo,hi,hz⟩:=C.zc j c z r hj
 have hr : ∀ x,x ≠ j -> x ≠ h -> upd (upd role h rh) j .fin x = role x:=fun x h1 h2=>by rw [upd_ne _ _ h1,upd_ne _ _ h2]
 have hrj : upd (upd role h rh) j .fin j = .fin:=upd_same _ _ _
 have hrhh : upd (upd role h rh) j .fin h = rh:=by rw [upd_ne _ _ (Ne.symm hjh),upd_same]
 have hcount : ∀ x,counts (upd (upd role h rh) j .fin) x = counts role x:=fun x=>by
   unfold counts
   by_cases e0 : x = 0
   . simp [e0]
   . rw [if_neg e0,if_neg e0]
     by_cases e1 : x = j
     . subst e1; rw [hrj,hj]
     . by_cases e2 : x = h
       . subst e2; rw [hrhh,C.holder]; cases rh <;> first | rfl | exact absurd rfl hrq
       . rw [hr x e1 e2]
 have hcf : counts (upd (upd role h rh) j .fin) = counts role:=funext hcount
 have hseat : ∀ {x c' z' r'},upd (upd role h rh) j .fin x = .seat c' z' r' -> x = h /\ rh = .seat c' z' r' ∨ role x = .seat c' z' r':=fun {x c' z' r'} hx=>by
   by_cases e1 : x = j
   . subst e1; rw [hrj] at hx; cases hx
   . by_cases e2 : x = h
     . subst e2; rw [hrhh] at hx; exact .inl ⟨rfl,hx⟩
     . rw [hr x e1 e2] at hx; exact .inr hx
 refine ⟨fun x y hx hy=>?_,fun c' lo' hi' hz'=>?_,fun x c' z' r' hx=>?_,fun x x' c' z1 z2 r1 r2 hx hx'=>?_,hrj,fun x hx=>?_,?_,C.keep.setChan hz _ _ _ _ _ _,(pz_setChan hz hc (by simp) _ _ _ _ _ _).trans C.view,?_,?_,cell_setChan hc (by simp) _ _ _ _ _ _ C.sema⟩
 . by_cases e : x = h
   . subst e
     rw [hH] at hy
     obtain rfl:=Option.some.inj hy
     rw [upd_same,hrhh]; exact hafter
   . rw [hoth x e hx] at hy
     rw [upd_ne q nh e,hr x hx e]
     have hi:=C.idle x y e hy
     cases es : role x with
     | quit=>rw [es] at hi; exact ⟨hi.1,by rw [hDeaf]; exact hi.2⟩
     | fin=>rw [es] at hi; exact ⟨hi.1,by rw [hDeaf]; exact hi.2⟩
     | seat c' z' r'=>rw [es] at hi; exact hi
 . by_cases ec : c = c'
   . subst ec; exact ⟨k + 1,heap_setChan_self w hc _ _ _ _ _ _⟩
   . obtain ⟨k',hk'⟩:=C.rest c' lo' hi' hz'
     exact ⟨k',by rw [heap_setChan_ne w _ _ _ _ _ _ ec]; exact hk'⟩
 . rcases hseat hx with ⟨_,h2⟩ | h2
   . exact (hrh c' z' r' h2).1
   . exact C.zc x c' z' r' h2
 . rcases hseat hx with ⟨h1,h2⟩ | h2 <;> rcases hseat hx' with ⟨h1',h2'⟩ | h2'
   . rw [h1,h1']
   . exact absurd h2' ((hrh c' z1 r1 h2).2 x' z2 r2)
   . exact absurd h2 ((hrh c' z2 r2 h2').2 x z1 r1)
   . exact C.inj x x' c' z1 z2 r1 r2 h2 h2'
 . rw [hsz] at hx
   obtain ⟨h1,h2⟩:=C.above x hx
   exact ⟨by rw [hDeaf]; exact h1,by rw [hr x (by omega) (by omega)]; exact h2⟩
 . rw [size_setChan]
   refine PastR.loosen (PastR.fewer hpast fun g hg=>?_) fun g ⟨⟨h1,h2⟩,h3⟩=>⟨h3,by rw [hr g h3 h1]; exact h2⟩
   by_cases e1 : g = j
   . subst e1; right; rw [hj]; rfl
   . by_cases e2 : g = h
     . exact .inl e2
     . rcases hg with hg | hg
       . exact absurd hg e1
       . right; rw [hr g e1 e2] at hg; exact hg
 . rw [hcf,hsz]
   exact cell_setChan hc (by simp) _ _ _ _ _ _ C.count
 . rw [hcf,hsz]; exact C.small
theorem Rg.setH (hE : EnvOk E) (C : Rg P E Lst role h dh pend V T gs w q) (x : Goroutine) {fn : FuncId} {pos : String} {es : Array Event} (hes : ∀ e ∈ es,EvZ E.Z w.heap.size e) : Rg P E Lst role h dh pend V (T ++ MemOp.ofEvents h fn pos es) (gs.setIfInBounds h x) w q:=by
 obtain ⟨hops,hs,hl,hdf⟩:=evZ_ops hE (i:=h) (fn:=fn) (pos:=pos) hes
 refine ⟨fun y g hy hg=>?_,C.rest,C.zc,C.inj,C.holder,fun j hj=>?_,C.past.appH hops hs ((hdf T).trans C.past.deafh) hl,C.keep,C.view,by simpa using C.count,by simpa using C.small,C.sema⟩
 . rw [Array.getElem?_setIfInBounds_ne (fun e=>hy e.symm)] at hg
   have hi:=C.idle y g hy hg
   have hD : Deaf (T ++ MemOp.ofEvents h fn pos es) y = Deaf T y:=Deaf_other T (fun z=>hy z.symm) _ hops
   cases e : role y with
   | quit=>rw [e] at hi; exact ⟨hi.1,by rw [hD]; exact hi.2⟩
   | fin=>rw [e] at hi; exact ⟨hi.1,by rw [hD]; exact hi.2⟩
   | seat c z r=>rw [e] at hi; exact hi
 . simp only [Array.size_setIfInBounds] at hj
   obtain ⟨h1,h2⟩:=C.above j hj
   refine ⟨?_,h2⟩
   by_cases e : j = h
   . subst e; rw [hdf T]; exact h1
   . rw [Deaf_other T (fun z=>e z.symm) _ hops]; exact h1
theorem Rg.give (hE : EnvOk E) (C : Rg P E Lst role h 0 pend V T gs w q) {a aX : Goroutine} {j c : Nat} {v z z' : Value} {r : Goroutine} {sl : Option (Nat × Nat)} (hjh : j ≠ h) (hjlt : j < gs.size) (hj : role j = .seat c z r) (ha : gs[h]? = some a) (hrun : a.status = .running)
   (hsend : ∀ w,pz E.Z w = V -> KW P E w -> ∃ es,(∀ e ∈ es,EvZ E.Z w.heap.size e) /\ stepG P (h == 0) a w = .comm aX #[scase c v z'] true .send w es)
   {rh : Role} (hrq : rh ≠ .quit) (hrh : ∀ c' z' r',rh = .seat c' z' r' -> (∃ lo hi,E.Z c' = some (0,lo,hi)) /\ ∀ x z'' r'',role x ≠ .seat c' z'' r'') {nh : Nat} (hafter : ∀ T',Deaf T' h = 0 -> Idle P E Lst T' h nh (Go.Conc.served aX undef) rh) :
   ∃ (N : Nat) (gs' : Array Goroutine) (w' : World) (sl' : Option (Nat × Nat)) (T' : Trace) (q' : Nat -> Nat) (role' : Nat -> Role),runNT P N (crowd gs w sl) T = (.next (crowd gs' w' sl'),T') /\ gs'.size = gs.size /\ gs'[j]? = some (Go.Conc.served r (recvd false v true)) /\ RoleLe (upd (upd role h rh) j .fin) role' /\ Rg P E Lst role' j 0 pend V T' gs' w' q' /\ Kin w w':=by
 suffices hfin : ∃ N m' T',runNT P N (crowd gs w sl) T = (.next m',T') /\ (fun m t=>∃ gs' w' sl' q' role',m = crowd gs' w' sl' /\ gs'.size = gs.size /\ gs'[j]? = some (Go.Conc.served r (recvd false v true)) /\ RoleLe (upd (upd role h rh) j .fin) role' /\ Rg P E Lst role' j 0 pend V t gs' w' q' /\ Kin w w') m' T' by
   obtain ⟨N,m',T',hr,gs',w',sl',q',role',rfl,h1,h2,h3,h4⟩:=hfin
   exact ⟨N,gs',w',sl',T',q',role',hr,h1,h2,h3,h4⟩
 refine runs_until (P:=P)
   (Inv:=fun μ m t=>(∃ gs' w' sl' q' role',m = crowd gs' w' sl' /\ gs'.size = gs.size /\ gs'[j]? = some (Go.Conc.served r (recvd false v true)) /\ RoleLe (upd (upd role h rh) j .fin) role' /\ Rg P E Lst role' j 0 pend V t gs' w' q' /\ Kin w w') ∨
     ∃ gsQ wY slQ qQ roleQ,∃ pk : Bool,m = crowd gsQ wY slQ /\ gsQ.size = gs.size /\ gsQ[h]? = some (if pk then parked aX #[scase c v z'] .send else a) /\ RoleLe role roleQ /\ Rg P E Lst roleQ h 0 pend V t gsQ wY qQ /\ Kin w wY /\ (pk = true -> 0 < qQ j) /\ μ = sumTo gsQ.size qQ + (if pk then 0 else 1))
   (fun μ m t hInv=>?_) _ _ T (.inr ⟨gs,w,sl,q,role,false,rfl,rfl,ha,RoleLe.refl _,C,Kin.refl _,by simp,rfl⟩)
 rcases hInv with hdone | ⟨gsQ,wY,slQ,qQ,roleQ,pk,rfl,hsz,haQ,hle,CQ,kn,hpk,hμ⟩
 . exact .inl hdone
 refine .inr ?_
 have hjQ : roleQ j = .seat c z r:=hle.seat hj
 obtain ⟨gj,hgj⟩ : ∃ gj,gsQ[j]? = some gj:=⟨gsQ[j]'(by omega),Array.getElem?_eq_getElem (by omega)⟩
 have hlth : h < gsQ.size:=(Array.getElem?_eq_some_iff.1 haQ).1
 have hSj : Sits P (j == 0) E c z r (qQ j) gj:=by have:=CQ.idle j gj hjh hgj; rwa [hjQ] at this
 have hsome : ∃ (i : Nat) (g : Goroutine),gsQ[i]? = some g /\ g.status = .running:=by
   cases pk with
   | false=>exact ⟨h,a,haQ,hrun⟩
   | true=>exact ⟨j,gj,hgj,hSj.status.elim (·.1) (fun z=>by have:=hpk rfl; omega)⟩
 obtain ⟨i,g,d',sl',hi,hg,hst⟩:=crowd_pick (P:=P) (w:=wY) (sl:=slQ) (CQ.awake haQ (by cases pk <;> simp [hrun,parked])) hsome
 have Cd:=CQ.at d'
 obtain ⟨k,hcd⟩:=Cd.chans j c z r hjQ
 obtain ⟨lo,hi',hzc⟩:=Cd.zc j c z r hjQ
 have hcB : c < wY.heap.size:=(Array.getElem?_eq_some_iff.1 hcd).1
 have hle2 : RoleLe (upd (upd role h rh) j .fin) (upd (upd roleQ h rh) j .fin):=fun x=>by
   by_cases e1 : x = j
   . subst e1; rw [upd_same,upd_same]; exact .inl rfl
   . rw [upd_ne _ _ e1,upd_ne _ _ e1]
     by_cases e2 : x = h
     . subst e2; rw [upd_same,upd_same]; exact .inl rfl
     . rw [upd_ne _ _ e2,upd_ne _ _ e2]; exact hle x
 have hrhQ : ∀ c' z' r',rh = .seat c' z' r' -> (∃ lo hi,E.Z c' = some (0,lo,hi)) /\ ∀ x z'' r'',roleQ x ≠ .seat c' z'' r'':=fun c' z1 r1 e=>⟨(hrh c' z1 r1 e).1,fun x z2 r2 e2=>(hrh c' z1 r1 e).2 x z2 r2 (hle.seat' e2)⟩
 -- BEHIND EITHER MEETING
 have fin : ∀ (gs' : Array Goroutine) (opsQ : Array MemOp),gs'.size = gsQ.size -> (∀ x,x ≠ h -> x ≠ j -> gs'[x]? = gsQ[x]?) -> gs'[h]? = some (Go.Conc.served aX undef) -> gs'[j]? = some (Go.Conc.served r (recvd false v true)) ->
     PastR E.still E.shun (fun g=>g = h ∨ isSeat (roleQ g) = true) (fun g=>g ≠ h /\ isSeat (roleQ g) = true) wY.heap.size h 0 (t ++ opsQ) -> (∀ x,Deaf (t ++ opsQ) x = Deaf t x) ->
     ∃ gs'' w' sl'' q' role',crowd gs' ((wY.at d').setChan c 0 #[] false (k + 1) (k + 1) false) sl' = crowd gs'' w' sl'' /\ gs''.size = gs.size /\ gs''[j]? = some (Go.Conc.served r (recvd false v true)) /\ RoleLe (upd (upd role h rh) j .fin) role' /\ Rg P E Lst role' j 0 pend V (t ++ (opsQ ++ met h j aX.frame.fn aX.frame.place r.frame.fn r.frame.place c k 0)) gs'' w' q' /\ Kin w w':=by
   intro gs' opsQ hsz' hoth hH hJ p1 hD0
   have hDeaf : ∀ x,Deaf (t ++ (opsQ ++ met h j aX.frame.fn aX.frame.place r.frame.fn r.frame.place c k 0)) x = Deaf t x:=fun x=>by rw [← Array.append_assoc,Deaf_quiet (met_quiet _ _ _ _ _ _ _ _ _ x),hD0]
   have p2:=p1.give (j:=j) (.inr (by rw [hjQ]; rfl)) hjh aX.frame.fn aX.frame.place r.frame.fn r.frame.place k 0 hcB
   rw [Array.append_assoc] at p2
   exact ⟨gs',_,sl',upd qQ h nh,_,rfl,hsz'.trans hsz,hJ,hle2,Cd.pass hjh hjQ hcd hsz' hlth (by omega) hoth hH hDeaf hrq hrhQ (hafter _ (by rw [hDeaf]; exact CQ.past.deafh)) p2,(kn.at d').trans (Kin.chan _ _ _ _ _ _ _ _)⟩
 have hμpos : 0 < μ:=by
   cases pk with
   | false=>simp at hμ; omega
   | true =>
     have h1:=hpk rfl
     have h2 : qQ j <= sumTo gsQ.size qQ:=Go.ConcN.le_sumTo (f:=qQ) (by omega)
     simp at hμ; omega
 by_cases e : i = h
 . subst e
   cases pk with
   | true=>rw [haQ] at hi; obtain rfl:=Option.some.inj hi; cases hg
   | false =>
     obtain rfl : g = a:=by rw [haQ] at hi; exact (Option.some.inj hi).symm
     obtain ⟨es,hes,hsd⟩:=hsend (wY.at d') Cd.view Cd.keep
     obtain ⟨hops,hs,hl,hdf⟩:=evZ_ops hE (i:=i) (fn:=g.frame.fn) (pos:=g.frame.place) hes
     have hoff : ∀ (x : Nat) (y : Goroutine),x ≠ j -> (gsQ.setIfInBounds i ph)[x]? = some y -> offersAt y c false = []:=by
       intro x y hxj hy
       rcases getElem?_stand gsQ i x y hy with ⟨_,rfl⟩ | ⟨hx,hy'⟩
       . exact offersAt_ph _ _
       . exact Cd.noRecvAt hx hy' fun z1 r1 e1=>hxj (CQ.inj x j c z1 z r1 r e1 hjQ)
     rcases hSj with hway | ⟨hq0,rfl⟩
     . have hjr : gj.status = .running:=hway.status.1
       have hp : partners (gsQ.setIfInBounds i ph) c false = []:=partners_nil fun x y hy=>by
         by_cases hxj : x = j
         . subst hxj
           rw [stand_get hjh hgj] at hy
           obtain rfl:=Option.some.inj hy
           exact offersAt_of_not_blocked (by rw [hjr]; simp) _ _
         . exact hoff x y hxj hy
       have hw : ∀ cc ∈ #[scase c v z'],NoWays (wY.at d') (gsQ.setIfInBounds i ph) cc:=by
         intro cc hcc
         simp only [List.mem_toArray,List.mem_cons,List.not_mem_nil,or_false] at hcc
         subst hcc
         exact ways_send_none hcd (Nat.le_refl _) hp
       exact ⟨_,_,sumTo gsQ.size qQ + 0,by rw [hst]; exact crowd_waits (sl:=sl') hi hsd hw,by simp at hμ; omega,.inr ⟨_,wY.at d',sl',qQ,roleQ,true,rfl,by simpa using hsz,Array.getElem?_setIfInBounds_self_of_lt hlth,hle,Cd.setH hE _ hes,kn.at d',fun _=>hway.status.2,by simp⟩⟩
     . have hp : partners (gsQ.setIfInBounds i ph) c false = [(j,0)]:=by
         rw [partners_one (stand_get hjh hgj) fun x y hxj hy=>hoff x y hxj hy,offersAt_parked_recv]
         simp
       refine ⟨_,_,0,by rw [hst]; exact crowd_send_meets_sel (sl:=sl') hi hsd hcd hjh hgj (k:=0) rfl hp,hμpos,.inl ?_⟩
       exact fin _ _ (by simp) (fun x hx hxj=>by rw [Array.getElem?_setIfInBounds_ne (fun z=>hx z.symm),Array.getElem?_setIfInBounds_ne (fun z=>hxj z.symm)]) (Array.getElem?_setIfInBounds_self_of_lt (by simpa using hlth))
         (by rw [Array.getElem?_setIfInBounds_ne (fun z=>hjh z.symm),Array.getElem?_setIfInBounds_self_of_lt (by omega),Go.Conc.finishComm_served,commResult_one]) (CQ.past.appH hops hs ((hdf t).trans CQ.past.deafh) hl)
         (fun x=>by
           by_cases ex : x = i
           . subst ex; exact hdf t
           . exact Deaf_other t (fun z=>ex z.symm) _ hops)
 . by_cases ej : i = j /\ pk = true /\ AtRecv P (i == 0) E c z r g
   . obtain ⟨rfl,rfl,hat⟩:=ej
     obtain ⟨_,esj,hesj,hstp⟩:=hat
     obtain ⟨hops,hr,hl,hd⟩:=evS_ops Cd.keep (i:=i) (fn:=g.frame.fn) (pos:=g.frame.place) hesj
     have hp : partners (gsQ.setIfInBounds i ph) c true = [(h,0)]:=by
       rw [partners_one (stand_get (Ne.symm hjh) haQ) fun x y hxh hy=>by
         rcases getElem?_stand gsQ i x y hy with ⟨_,rfl⟩ | ⟨_,hy'⟩
         . exact offersAt_ph _ _
         . exact Cd.noSend hxh hy' _]
       simp [offersAt_parked_send]
     refine ⟨_,_,0,by rw [hst]; exact crowd_recv_meets (sl:=sl') hi (hstp _ Cd.keep) hcd (Ne.symm hjh) haQ hp,hμpos,.inl ?_⟩
     exact fin _ _ (by simp) (fun x hx hxj=>by rw [Array.getElem?_setIfInBounds_ne (fun z=>hxj z.symm),Array.getElem?_setIfInBounds_ne (fun z=>hx z.symm)])
       (by rw [Array.getElem?_setIfInBounds_ne hjh,Array.getElem?_setIfInBounds_self_of_lt hlth,finishComm_send]) (by rw [Array.getElem?_setIfInBounds_self_of_lt (by simp; omega),Go.Conc.finishComm_served,commResult_one])
       (CQ.past.appRead (still_shun hE) (.inr (by rw [hjQ]; rfl)) hjh ⟨hjh,by rw [hjQ]; rfl⟩ hops hr (hd t) hl)
       (fun x=>by
         by_cases ex : x = i
         . subst ex; exact hd t
         . exact Deaf_other t (fun z=>ex z.symm) _ hops)
   . obtain ⟨gs',w',ops,q',role',hrt,hsz',hh,_,hww,hr1,hr2,hqo,hq0,C',hlt⟩:=Cd.by_step (sl:=sl') hE hi e hg
       (fun gx hgx w' hk=>by
         rw [haQ] at hgx; obtain rfl:=Option.some.inj hgx
         cases pk with
         | false=>exact again_running _ (.inl hrun)
         | true=>exact again_send_open (hk.chan _ _ _ _ _ _ _ hcd))
       (fun c' z1 r1 hs' hat gx hgx=>by
         rw [haQ] at hgx; obtain rfl:=Option.some.inj hgx
         cases pk with
         | false=>exact offersAt_of_not_blocked (by simp [hrun]) _ _
         | true =>
           simp only [if_true]
           rw [offersAt_parked_send,if_neg]
           intro ec
           subst ec
           have hij : i = j:=CQ.inj i j c z1 z r1 r hs' hjQ
           subst hij
           rw [hjQ] at hs'
           injection hs' with e1 e2 e3
           subst e2 e3
           exact ej ⟨rfl,rfl,hat⟩)
     refine ⟨_,_,sumTo gs'.size q' + (if pk then 0 else 1),by rw [hst]; exact hrt,by rw [hsz']; omega,.inr ⟨gs',w',sl',q',role',pk,rfl,hsz'.trans hsz,hh.trans haQ,hle.trans (RoleLe.of hr1 hr2),C',kn.trans (Kin.ofAt (Kin.step hww)),fun hp=>?_,rfl⟩⟩
     subst hp
     by_cases hij : j = i
     . subst hij
       rcases Nat.eq_zero_or_pos (q' j) with h0 | h0
       . exact absurd ⟨rfl,rfl,hq0 c z r hjQ h0⟩ ej
       . exact h0
     . rw [hqo j hij]; exact hpk rfl
theorem Rg.hire (hE : EnvOk E) (C : Rg P E Lst role h 0 (pend + 1) V T gs w q) {a a' child : Goroutine} {sl : Option (Nat × Nat)} (ha : gs[h]? = some a) (hrun : a.status = .running)
   (hgo : ∀ w,pz E.Z w = V -> KW P E w -> ∃ es,(∀ e ∈ es,EvZ E.Z w.heap.size e) /\ stepG P (h == 0) a w = .spawn a' child w es)
   {rh : Role} (hrq : rh ≠ .quit) (hrh : ∀ c' z' r',rh = .seat c' z' r' -> (∃ lo hi,E.Z c' = some (0,lo,hi)) /\ ∀ x z'' r'',role x ≠ .seat c' z'' r'') {nh : Nat} (hafter : ∀ T',Deaf T' h = 0 -> Idle P E Lst T' h nh a' rh) :
   ∃ (N : Nat) (gs' : Array Goroutine) (w' : World) (sl' : Option (Nat × Nat)) (T' : Trace) (q' : Nat -> Nat) (role' : Nat -> Role),runNT P N (crowd gs w sl) T = (.next (crowd gs' w' sl'),T') /\ gs'.size = gs.size + 1 /\ gs'[gs.size]? = some child /\ RoleLe (upd (upd role h rh) gs.size .fin) role' /\ Rg P E Lst role' gs.size 0 pend V T' gs' w' q' /\ Kin w w':=by
 obtain ⟨N,gsQ,wY,d',slQ,slY,TQ,qQ,roleQ,hrn,hst,hsz,haQ,hle,CQ,kn⟩:=C.picked (sl:=sl) hE ha hrun
 have hlt : h < gsQ.size:=(Array.getElem?_eq_some_iff.1 haQ).1
 obtain ⟨es,hes,hsp⟩:=hgo (wY.at d') CQ.view CQ.keep
 obtain ⟨hops,hs,hl,hdf⟩:=evZ_ops hE (i:=h) (fn:=a.frame.fn) (pos:=a.frame.place) hes
 have hrt:=runT_crowd_spawn (P:=P) (sl:=slY) haQ hsp
 have hpush : ((MemOp.ofEvents h a.frame.fn a.frame.place es).push { g:=h,fn:=a.frame.fn,pos:=a.frame.place,act:=.go gsQ.size } |>.push { g:=gsQ.size,fn:=child.frame.fn,pos:=a.frame.place,act:=.start }) =
     MemOp.ofEvents h a.frame.fn a.frame.place es ++ #[{ g:=h,fn:=a.frame.fn,pos:=a.frame.place,act:=.go gsQ.size },{ g:=gsQ.size,fn:=child.frame.fn,pos:=a.frame.place,act:=.start }]:=by
   apply Array.ext'; simp
 rw [hpush] at hrt
 have p1:=CQ.past.appH hops hs ((hdf TQ).trans CQ.past.deafh) hl
 have hD1 : ∀ x,Deaf (TQ ++ MemOp.ofEvents h a.frame.fn a.frame.place es) x = Deaf TQ x:=fun x=>by
   by_cases ex : x = h
   . subst ex; exact hdf TQ
   . exact Deaf_other TQ (fun z=>ex z.symm) _ hops
 obtain ⟨ab1,ab2⟩:=CQ.above gsQ.size (Nat.le_refl _)
 have hch : gsQ.size ≠ h:=by omega
 have p2:=p1.hireGive (c:=gsQ.size) (.inl rfl) (by rw [hD1]; exact ab1) hch (by rw [ab2]; simp [hch,isSeat]) a.frame.fn a.frame.place child.frame.fn
 rw [Array.append_assoc] at p2
 have hD2 : ∀ x,Deaf (TQ ++ (MemOp.ofEvents h a.frame.fn a.frame.place es ++ #[{ g:=h,fn:=a.frame.fn,pos:=a.frame.place,act:=.go gsQ.size },{ g:=gsQ.size,fn:=child.frame.fn,pos:=a.frame.place,act:=.start }])) x = Deaf TQ x:=fun x=>by
   rw [← Array.append_assoc,Deaf_quiet (fun op hop d=>by
     simp only [List.mem_toArray,List.mem_cons,List.not_mem_nil,or_false] at hop
     rcases hop with rfl | rfl <;> rfl),hD1]
 have hr : ∀ x,x ≠ gsQ.size -> x ≠ h -> upd (upd roleQ h rh) gsQ.size .fin x = roleQ x:=fun x h1 h2=>by rw [upd_ne _ _ h1,upd_ne _ _ h2]
 have hrj : upd (upd roleQ h rh) gsQ.size .fin gsQ.size = .fin:=upd_same _ _ _
 have hrhh : upd (upd roleQ h rh) gsQ.size .fin h = rh:=by rw [upd_ne _ _ (Ne.symm hch),upd_same]
 have hseat : ∀ {x c' z' r'},upd (upd roleQ h rh) gsQ.size .fin x = .seat c' z' r' -> x = h /\ rh = .seat c' z' r' ∨ roleQ x = .seat c' z' r':=fun {x c' z' r'} hx=>by
   by_cases e1 : x = gsQ.size
   . subst e1; rw [hrj] at hx; cases hx
   . by_cases e2 : x = h
     . subst e2; rw [hrhh] at hx; exact .inl ⟨rfl,hx⟩
     . rw [hr x e1 e2] at hx; exact .inr hx
 have hrhQ : ∀ c' z' r',rh = .seat c' z' r' -> (∃ lo hi,E.Z c' = some (0,lo,hi)) /\ ∀ x z'' r'',roleQ x ≠ .seat c' z'' r'':=fun c' z1 r1 e=>⟨(hrh c' z1 r1 e).1,fun x z2 r2 e2=>(hrh c' z1 r1 e).2 x z2 r2 (hle.seat' e2)⟩
 have hcount : sumTo (gsQ.size + 1) (counts (upd (upd roleQ h rh) gsQ.size .fin)) = sumTo gsQ.size (counts roleQ) + 1:=by
   have e1 : ∀ n,n <= gsQ.size -> sumTo n (counts (upd (upd roleQ h rh) gsQ.size .fin)) = sumTo n (counts roleQ):=by
     intro n
     induction n with
     | zero=>intro _; rfl
     | succ n ih =>
       intro hn
       have e2 : counts (upd (upd roleQ h rh) gsQ.size .fin) n = counts roleQ n:=by
         unfold counts
         by_cases e0 : n = 0
         . simp [e0]
         . rw [if_neg e0,if_neg e0]
           by_cases e3 : n = h
           . subst e3; rw [hrhh,CQ.holder]; cases rh <;> first | rfl | exact absurd rfl hrq
           . rw [hr n (by omega) e3]
       simp only [sumTo,ih (by omega),e2]
   have e3 : counts (upd (upd roleQ h rh) gsQ.size .fin) gsQ.size = 1:=by
     have : gsQ.size ≠ 0:=by omega
     simp [counts,this,hrj]
   simp only [sumTo,e1 _ (Nat.le_refl _),e3]
 refine ⟨N + 1,_,wY.at d',slY,_,upd qQ h nh,upd (upd roleQ h rh) gsQ.size .fin,runNT_succ_of hrn (hst.trans hrt),by simp [hsz],by rw [← hsz,Array.getElem?_push,if_pos (by simp)],fun x=>?_,?_,kn.at d'⟩
 . rw [hsz]
   by_cases e1 : x = gs.size
   . subst e1; rw [upd_same,upd_same]; exact .inl rfl
   . rw [upd_ne _ _ e1,upd_ne _ _ e1]
     by_cases e2 : x = h
     . subst e2; rw [upd_same,upd_same]; exact .inl rfl
     . rw [upd_ne _ _ e2,upd_ne _ _ e2]; exact hle x
 . rw [← hsz]
   refine ⟨fun x y hx hy=>?_,CQ.rest,fun x c' z' r' hx=>?_,fun x x' c' z1 z2 r1 r2 hx hx'=>?_,hrj,fun x hx=>?_,?_,CQ.keep,CQ.view,?_,?_,CQ.sema⟩
   . have hxl : x < gsQ.size:=by
       have:=(Array.getElem?_eq_some_iff.1 hy).1
       simp at this; omega
     rw [Array.getElem?_push,if_neg (by simp; omega)] at hy
     by_cases ex : x = h
     . subst ex
       rw [Array.getElem?_setIfInBounds_self_of_lt hlt] at hy
       obtain rfl:=Option.some.inj hy
       rw [upd_same,hrhh]
       exact hafter _ (by rw [hD2]; exact CQ.past.deafh)
     . rw [Array.getElem?_setIfInBounds_ne (fun z=>ex z.symm)] at hy
       rw [upd_ne qQ nh ex,hr x hx ex]
       have hid:=CQ.idle x y ex hy
       cases e : roleQ x with
       | quit=>rw [e] at hid; exact ⟨hid.1,by rw [hD2]; exact hid.2⟩
       | fin=>rw [e] at hid; exact ⟨hid.1,by rw [hD2]; exact hid.2⟩
       | seat c z r=>rw [e] at hid; exact hid
   . rcases hseat hx with ⟨_,h2⟩ | h2
     . exact (hrhQ c' z' r' h2).1
     . exact CQ.zc x c' z' r' h2
   . rcases hseat hx with ⟨h1,h2⟩ | h2 <;> rcases hseat hx' with ⟨h1',h2'⟩ | h2'
     . rw [h1,h1']
     . exact absurd h2' ((hrhQ c' z1 r1 h2).2 x' z2 r2)
     . exact absurd h2 ((hrhQ c' z2 r2 h2').2 x z1 r1)
     . exact CQ.inj x x' c' z1 z2 r1 r2 h2 h2'
   . simp at hx
     obtain ⟨h1,h2⟩:=CQ.above x (by omega)
     exact ⟨by rw [hD2]; exact h1,by rw [hr x (by omega) (by omega)]; exact h2⟩
   . refine PastR.loosen (PastR.fewer p2 fun g hg=>?_) fun g ⟨h1,h2⟩=>?_
     . by_cases e1 : g = gsQ.size
       . exact .inr e1
       . left
         by_cases e2 : g = h
         . exact .inl e2
         . rcases hg with hg | hg
           . exact absurd hg e1
           . right; rw [hr g e1 e2] at hg; exact hg
     . have e1 : g ≠ gsQ.size:=fun e1=>by subst e1; rw [ab2] at h2; cases h2
       exact ⟨e1,by rw [hr g e1 h1]; exact h2⟩
   . simp only [Array.size_push,Array.size_setIfInBounds]
     rw [hcount]
     have:=CQ.count
     rw [show sumTo gsQ.size (counts roleQ) + 1 + pend = sumTo gsQ.size (counts roleQ) + (pend + 1) by omega]
     exact this
   . simp only [Array.size_push,Array.size_setIfInBounds]
     rw [hcount]
     have:=CQ.small
     omega
end
def EvM (E : Env) (B : Nat) (e : Event) : Prop:=(∀ b,(MemAct.ofEvent e).touch? = some b -> E.shun b.loc /\ b.kind ≠ .plain) /\ (MemAct.ofEvent e).low B
section
variable {P : Program} {E : Env} {Lst : Nat -> Nat -> Goroutine -> Prop} {role : Nat -> Role} {h dh pend : Nat} {V : World} {T : Trace} {gs : Array Goroutine} {w : World} {q : Nat -> Nat}
theorem Rg.ownX (hE : EnvOk E) (C : Rg P E Lst role h dh pend V T gs w q) {a a' : Goroutine} {w' : World} {es : Array Event} {pend' : Nat} (ha : gs[h]? = some a) (hck : ChanKept w w') (hsz : w.heap.size = w'.heap.size) (hK : KW P E w') (hV : pz E.Z w' = V)
   (he : ∀ e ∈ es,EvM E w.heap.size e) (hc : w'.cell? E.st = some (.int .u64 ((sumTo gs.size (counts role) + pend' : Nat) * two32))) (hs : sumTo gs.size (counts role) + pend' < 2147483647) (hsm : w'.cell? E.sm = some (.int .u32 0)) :
   Rg P E Lst role h (deafBehind dh es) pend' V (T ++ MemOp.ofEvents h a.frame.fn a.frame.place es) ((gs.map (woken P a a' w')).setIfInBounds h a') w' q /\ ((gs.map (woken P a a' w')).setIfInBounds h a')[h]? = some a':=by
 have hlt : h < gs.size:=(Array.getElem?_eq_some_iff.1 ha).1
 have hops : ∀ op ∈ MemOp.ofEvents h a.frame.fn a.frame.place es,op.g = h:=fun op hop=>by obtain ⟨e,_,rfl⟩:=Go.Conc.mem_ofEvents hop; rfl
 refine ⟨⟨fun x y hx hy=>?_,fun c lo hi hz=>?_,C.zc,C.inj,C.holder,fun j hj=>?_,?_,hK,hV,?_,?_,hsm⟩,Array.getElem?_setIfInBounds_self_of_lt (by simpa using hlt)⟩
 . rw [Array.getElem?_setIfInBounds_ne (fun e=>hx e.symm),Array.getElem?_map] at hy
   obtain ⟨yQ,hyQ,rfl⟩:=Option.map_eq_some_iff.1 hy
   rw [woken_of_again (C.fixed hck hx hyQ)]
   have hi:=C.idle x yQ hx hyQ
   have hD : Deaf (T ++ MemOp.ofEvents h a.frame.fn a.frame.place es) x = Deaf T x:=Deaf_other T (fun z=>hx z.symm) _ hops
   cases es' : role x with
   | quit=>rw [es'] at hi; exact ⟨hi.1,by rw [hD]; exact hi.2⟩
   | fin=>rw [es'] at hi; exact ⟨hi.1,by rw [hD]; exact hi.2⟩
   | seat c z r=>rw [es'] at hi; exact hi
 . obtain ⟨k,hk⟩:=C.rest c lo hi hz
   exact ⟨k,hck.chan _ _ _ _ _ _ _ hk⟩
 . simp only [Array.size_setIfInBounds,Array.size_map] at hj
   rw [Deaf_other T (g':=h) (by omega) _ hops]
   exact C.above j hj
 . rw [← hsz]
   refine C.past.appH hops (fun op hop b hb=>?_) (by rw [Deaf_own,C.past.deafh]) (fun op hop=>?_)
   . obtain ⟨e,hm,rfl⟩:=Go.Conc.mem_ofEvents hop
     obtain ⟨h1,h2⟩:=(he e hm).1 b hb
     exact ⟨fun hs=>absurd h1 (still_shun hE _ hs),fun _=>h2⟩
   . obtain ⟨e,hm,rfl⟩:=Go.Conc.mem_ofEvents hop
     exact (he e hm).2
 . simp only [Array.size_setIfInBounds,Array.size_map]; exact hc
 . simp only [Array.size_setIfInBounds,Array.size_map]; exact hs
theorem Rg.mark (hE : EnvOk E) (C : Rg P E Lst role h dh pend V T gs w q) {a a' : Goroutine} {es : Array Event} {sl : Option (Nat × Nat)} (ha : gs[h]? = some a) (hrun : a.status = .running)
   (hs : ∀ w,pz E.Z w = V -> SW P E w -> stepG P (h == 0) a w = .go a' w es) (he : ∀ w,KW P E w -> ∀ e ∈ es,EvM E w.heap.size e) :
   ∃ (N : Nat) (gs' : Array Goroutine) (w' : World) (sl' : Option (Nat × Nat)) (T' : Trace) (q' : Nat -> Nat) (role' : Nat -> Role),runNT P N (crowd gs w sl) T = (.next (crowd gs' w' sl'),T') /\ gs'.size = gs.size /\ gs'[h]? = some a' /\ RoleLe role role' /\ Rg P E Lst role' h (deafBehind dh es) pend V T' gs' w' q' /\ Kin w w':=by
 obtain ⟨N,gsQ,wY,d',slQ,slY,TQ,qQ,roleQ,hrn,hst,hsz,haQ,hle,CQ,kn⟩:=C.picked (sl:=sl) hE ha hrun
 have hgo:=hs (wY.at d') CQ.view ⟨CQ.keep,⟨_,CQ.sema⟩,_,CQ.count⟩
 obtain ⟨CY,haY⟩:=CQ.ownX hE (a':=a') haQ (ChanKept.refl _) rfl CQ.keep CQ.view (he _ CQ.keep) CQ.count CQ.small CQ.sema
 exact ⟨N + 1,_,_,slY,_,qQ,roleQ,runNT_succ_of hrn (hst.trans (runT_crowd_go (P:=P) (sl:=slY) haQ hgo)),by simpa using hsz,haY,hle,CY,kn.at d'⟩
theorem sum_le {f g : Nat -> Nat} (hfg : ∀ x,f x <= g x) : ∀ n,sumTo n f <= sumTo n g
 | 0=>Nat.le_refl _
 | n + 1=>by simp only [sumTo]; have:=sum_le hfg n; have:=hfg n; omega
theorem counts_le {role' : Nat -> Role} (hle : RoleLe role role') (x : Nat) : counts role' x <= counts role x:=by
 unfold counts
 by_cases e : x = 0
 . simp [e]
 . rw [if_neg e,if_neg e]
   rcases hle x with h1 | ⟨h1,h2⟩
   . rw [h1]; exact Nat.le_refl _
   . rw [h1,h2]; simp
theorem evM_atomic (hE : EnvOk E) {w : World} {v : Value} (hc : w.cell? E.st = some v) : ∀ e ∈ (#[⟨.cell E.st,false,true⟩,⟨.cell E.st,true,true⟩] : Array Event),EvM E w.heap.size e:=fun e he=>by
 obtain ⟨_,k,lo,hi',hz,h1,h2⟩:=hE.st
 have hsh : E.shun (.cell E.st):=⟨E.st,k + 1,lo,hi',rfl,hz,h1⟩
 have hlt:=cell_lt hc
 simp only [List.mem_toArray,List.mem_cons,List.not_mem_nil,or_false] at he
 rcases he with rfl | rfl
 . refine ⟨fun b hb=>?_,hlt⟩
   simp only [MemAct.ofEvent,MemAct.touch?,Option.some.injEq] at hb
   subst hb
   exact ⟨hsh,by simp⟩
 . refine ⟨fun b hb=>?_,hlt⟩
   simp only [MemAct.ofEvent,MemAct.touch?,Option.some.injEq] at hb
   subst hb
   exact ⟨hsh,by simp⟩
theorem Rg.addOne (hE : EnvOk E) (C : Rg P E Lst role h dh pend V T gs w q) {a : Goroutine} {a' : Nat -> Goroutine} {sl : Option (Nat × Nat)} (ha : gs[h]? = some a) (hrun : a.status = .running) (hsm : sumTo gs.size (counts role) + pend + 1 < 2147483647)
   (hs : ∀ w (v : Nat),pz E.Z w = V -> KW P E w -> v + 1 < 2147483647 -> w.cell? E.st = some (.int .u64 (v * two32)) -> stepG P (h == 0) a w = .go (a' (v + 1)) (w.setCell E.st (.int .u64 ((v + 1 : Nat) * two32))) #[⟨.cell E.st,false,true⟩,⟨.cell E.st,true,true⟩]) :
   ∃ (N : Nat) (gs' : Array Goroutine) (w' : World) (sl' : Option (Nat × Nat)) (T' : Trace) (q' : Nat -> Nat) (role' : Nat -> Role) (v : Nat),runNT P N (crowd gs w sl) T = (.next (crowd gs' w' sl'),T') /\ gs'.size = gs.size /\ gs'[h]? = some (a' v) /\ 0 < v /\ v < 2147483647 /\ RoleLe role role' /\ Rg P E Lst role' h dh (pend + 1) V T' gs' w' q' /\ Kin w w':=by
 obtain ⟨N,gsQ,wY,d',slQ,slY,TQ,qQ,roleQ,hrn,hst,hsz,haQ,hle,CQ,kn⟩:=C.picked (sl:=sl) hE ha hrun
 have hb : sumTo gsQ.size (counts roleQ) + pend + 1 < 2147483647:=by
   have:=sum_le (counts_le hle) gs.size
   rw [hsz]
   omega
 have hgo:=hs (wY.at d') _ CQ.view CQ.keep hb CQ.count
 have hev:=evM_atomic hE CQ.count
 obtain ⟨CY,haY⟩:=CQ.ownX (pend':=pend + 1) hE (a':=a' (sumTo gsQ.size (counts roleQ) + pend + 1)) haQ (ChanKept.setCell _ E.st _) (size_setCell _ _ _).symm (CQ.keep.setSt hE _) ((pz_setSt hE CQ.keep.1 _).trans CQ.view) hev (cell_setSt_self hE CQ.count) hb (by rw [cell_setSt_ne _ (.inr hE.sm.2.2.1)]; exact CQ.sema)
 have hd : deafBehind dh #[⟨.cell E.st,false,true⟩,⟨.cell E.st,true,true⟩] = dh:=deafBehind_still (fun e he=>by
   simp only [List.mem_toArray,List.mem_cons,List.not_mem_nil,or_false] at he
   rcases he with rfl | rfl <;> simp) dh
 rw [hd] at CY
 exact ⟨N + 1,_,_,slY,_,qQ,roleQ,_,runNT_succ_of hrn (hst.trans (runT_crowd_go (P:=P) (sl:=slY) haQ hgo)),by simpa using hsz,haY,by omega,hb,hle,CY,(kn.at d').trans (Kin.cell _ _ _)⟩
end
def shunZ (Z : Cuts) (l : Loc) : Prop:=∃ a k lo hi,l = .cell a /\ Z a.block = some (k,lo,hi) /\ k <= a.off
structure Ald (P : Program) (Z : Cuts) (V : World) (dm : Nat) (T : Trace) (gs : Array Goroutine) (w : World) (q : Nat -> Nat) : Prop where
 lv : Leavers P T gs q
 past : PastR (fun _=>False) (shunZ Z) (fun g=>g = 0) (fun _=>False) w.heap.size 0 dm T
 fit : Fit P Z w
 view : pz Z w = V
 rest : ∀ c lo hi,Z c = some (0,lo,hi) -> ∃ k,w.heap[c]? = some (.chan 0 #[] false k k false)
 nul : ∀ b,Z b = some (3,0,0) -> ∃ c e,w.heap[b]? = some (.cells c e (0,0)) /\ c[3]? = some (.int .u64 0) /\ c[4]? = some (.int .u32 0)
abbrev Al (P : Program) (Z : Cuts) (V : World) (T : Trace) (gs : Array Goroutine) (w : World) (q : Nat -> Nat) : Prop:=Ald P Z V 0 T gs w q
section
variable {P : Program} {Z : Cuts} {V : World} {dm : Nat} {T : Trace} {gs : Array Goroutine} {w : World} {q : Nat -> Nat}
theorem evZ_L {n : Nat} {e : Event} (hz : EvZ Z n e) : EvL (shunZ Z) n e:=by
 obtain ⟨loc,wr,sy⟩:=e
 cases loc with
 | cell a =>
   refine ⟨fun x hx ⟨a',k,lo,hi,e',hz',hk⟩=>?_,by simp,by simp,hz.1⟩
   simp only [MemAct.ofEvent,MemAct.touch?,Option.some.injEq] at hx
   subst hx
   obtain rfl : a = a':=by simpa using e'
   have:=(hz.2 k lo hi hz').1
   omega
 | obj r =>
   refine ⟨fun x hx ⟨a',k,lo,hi,e',_⟩=>?_,by simp,by simp,by cases wr <;> cases sy <;> exact hz.1⟩
   have hl : x.loc = .obj r:=by
     cases wr <;> cases sy <;> simp [MemAct.ofEvent,MemAct.touch?] at hx <;> subst hx <;> rfl
   rw [hl] at e'; cases e'
 | mark m=>cases m <;> first | exact hz.elim | exact ⟨fun x hx=>by simp [MemAct.ofEvent,MemAct.touch?] at hx,by simp,by simp,trivial⟩
 | _=>exact hz.elim
theorem Ald.at (C : Ald P Z V dm T gs w q) (d : Nat) : Ald P Z V dm T gs (w.at d) q:=⟨C.lv,C.past,⟨C.fit.cut,C.fit.rows,C.fit.chans,C.fit.glob,C.fit.bad⟩,C.view,C.rest,C.nul⟩
theorem Ald.awake (C : Ald P Z V dm T gs w q) {a : Goroutine} (h0 : gs[0]? = some a) (hrun : a.status = .running) : ∀ g ∈ gs,awake g:=by
 intro g hg
 obtain ⟨i,hi,rfl⟩:=Array.mem_iff_getElem.1 hg
 rcases Nat.eq_zero_or_pos i with rfl | hpos
 . have : gs[0] = a:=by simpa [Array.getElem?_eq_getElem hi] using h0
   rw [this]; exact awake_of (.inl hrun)
 . exact awake_of ((C.lv.old i _ hpos (Array.getElem?_eq_getElem hi)).status.elim .inl fun x=>.inr (.inr x))
theorem Ald.slip (C : Ald P Z V dm T gs w q) {a g : Goroutine} {i : Nat} {sl : Option (Nat × Nat)} (h0 : gs[0]? = some a) (hrun : a.status = .running) (hi : gs[i]? = some g) (hpos : 0 < i) (hg : g.status = .running) :
   ∃ gs' ops q',runT P (crowd gs w sl) i = (.next (crowd gs' w sl),ops) /\ gs'.size = gs.size /\ gs'[0]? = some a /\ Ald P Z V dm (T ++ ops) gs' w q' /\ sumTo gs.size q' < sumTo gs.size q:=by
 have hq:=C.lv.old i g hpos hi
 have hi0 : (i == 0) = false:=by simp; omega
 have hlt : i < gs.size:=(Array.getElem?_eq_some_iff.1 hi).1
 cases hqi : q i with
 | zero=>rw [hqi] at hq; rw [hq.1] at hg; cases hg
 | succ k =>
   rw [hqi] at hq
   rcases hq with ⟨hf,_⟩ | ⟨_,g',es,hm,hstp,hq'⟩
   . rw [hf] at hg; cases hg
   have hsum : sumTo gs.size (upd q i k) + (k + 1) = sumTo gs.size q + k:=by
     have:=sumTo_upd q k id hlt
     simpa [hqi] using this
   refine ⟨_,_,upd q i k,runT_crowd_go (sl:=sl) (i:=i) hi (by rw [hi0]; exact hstp w),by simp,?_,⟨⟨fun j x hj hx=>?_,fun j hj=>?_⟩,C.past.appMute (g:=i) (fun op hop=>by obtain ⟨e,_,rfl⟩:=Go.Conc.mem_ofEvents hop; rfl) (fun op hop=>by obtain ⟨e,he,rfl⟩:=Go.Conc.mem_ofEvents hop; exact touch_mute (hm e he)) (fun hM=>absurd hM (Nat.ne_of_gt hpos)) ((Deaf_other T (Nat.ne_of_gt hpos) _ (fun op hop=>by obtain ⟨e,_,rfl⟩:=Go.Conc.mem_ofEvents hop; rfl)).trans C.past.deafh) (fun op hop=>by obtain ⟨e,he,rfl⟩:=Go.Conc.mem_ofEvents hop; exact low_mute (hm e he) _),C.fit,C.view,C.rest,C.nul⟩,by omega⟩
   . have hne : i ≠ 0:=by omega
     rw [Array.getElem?_setIfInBounds_ne hne,Array.getElem?_map,h0]
     simp [woken_run hrun]
   . by_cases hji : i = j
     . subst hji
       rw [Array.getElem?_setIfInBounds_self_of_lt (by simpa using hlt)] at hx
       obtain rfl:=Option.some.inj hx
       rw [upd_same,Deaf_own]
       exact hq'
     . rw [Array.getElem?_setIfInBounds_ne hji,Array.getElem?_map] at hx
       obtain ⟨y,hy,rfl⟩:=Option.map_eq_some_iff.1 hx
       have hqj:=C.lv.old j y hj hy
       rw [woken_quitsD hqj,upd_ne q k (Ne.symm hji),Deaf_other T hji _ (fun op hop=>by obtain ⟨e,_,rfl⟩:=Go.Conc.mem_ofEvents hop; rfl)]
       exact hqj
   . rw [Deaf_other T (g':=i) (by simp at hj; omega) _ (fun op hop=>by obtain ⟨e,_,rfl⟩:=Go.Conc.mem_ofEvents hop; rfl)]
     exact C.lv.above j (by simpa using hj)
theorem Ald.picked (C : Ald P Z V dm T gs w q) {a : Goroutine} {sl : Option (Nat × Nat)} (ha : gs[0]? = some a) (hrun : a.status = .running) :
   ∃ (N : Nat) (gs' : Array Goroutine) (w' : World) (d' : Nat) (sl' sl'' : Option (Nat × Nat)) (T' : Trace) (q' : Nat -> Nat),runNT P N (crowd gs w sl) T = (.next (crowd gs' w' sl'),T') /\
     stepT P (crowd gs' w' sl') = runT P (crowd gs' (w'.at d') sl'') 0 /\ gs'.size = gs.size /\ gs'[0]? = some a /\ Ald P Z V dm T' gs' (w'.at d') q' /\ Kin w w':=by
 obtain ⟨N,m',T',hr,gs',w',d',sl',sl'',q',rfl,hst,hsz,ha',C',kn⟩:=runs_until (P:=P)
   (Inv:=fun μ m t=>∃ gsQ wY slQ qQ,m = crowd gsQ wY slQ /\ gsQ.size = gs.size /\ gsQ[0]? = some a /\ Ald P Z V dm t gsQ wY qQ /\ Kin w wY /\ μ = sumTo gsQ.size qQ)
   (Done:=fun m t=>∃ gsQ wY d' slQ slY qQ,m = crowd gsQ wY slQ /\ stepT P (crowd gsQ wY slQ) = runT P (crowd gsQ (wY.at d') slY) 0 /\ gsQ.size = gs.size /\ gsQ[0]? = some a /\ Ald P Z V dm t gsQ (wY.at d') qQ /\ Kin w wY)
   (fun μ m t ⟨gsQ,wY,slQ,qQ,hm,hsz,haQ,CQ,kn,hμ⟩=>by
     subst hm
     obtain ⟨i,g,d',sl',hi,hg,hst⟩:=crowd_pick (P:=P) (w:=wY) (sl:=slQ) (CQ.awake haQ hrun) ⟨0,a,haQ,hrun⟩
     rcases Nat.eq_zero_or_pos i with rfl | hpos
     . exact .inl ⟨gsQ,wY,d',slQ,sl',qQ,rfl,hst,hsz,haQ,CQ.at d',kn⟩
     . obtain ⟨gs',ops,q',hrt,hsz',h0,C',hlt⟩:=(CQ.at d').slip (sl:=sl') haQ hrun hi hpos hg
       exact .inr ⟨_,_,sumTo gs'.size q',by rw [hst]; exact hrt,by rw [hsz']; omega,gs',_,sl',q',rfl,hsz'.trans hsz,h0,C',kn.at d',rfl⟩)
   _ _ T ⟨gs,w,sl,q,rfl,rfl,ha,C,Kin.refl _,rfl⟩
 exact ⟨N,gs',w',d',sl',sl'',T',q',hr,hst,hsz,ha',C',kn⟩
theorem Ald.own (C : Ald P Z V dm T gs w q) {a a' : Goroutine} {w' : World} {es : Array Event} (ha : gs[0]? = some a) (hH : Hidden Z w w') (hf : Fit P Z w') (he : ∀ e ∈ es,EvZ Z w'.heap.size e) :
   Ald P Z (pz Z w') dm (T ++ MemOp.ofEvents 0 a.frame.fn a.frame.place es) ((gs.map (woken P a a' w')).setIfInBounds 0 a') w' q /\ ((gs.map (woken P a a' w')).setIfInBounds 0 a')[0]? = some a':=by
 have hlt : 0 < gs.size:=(Array.getElem?_eq_some_iff.1 ha).1
 refine ⟨⟨⟨fun j x hj hx=>?_,fun j hj=>?_⟩,(C.past.mono hH.size).appH (fun op hop=>by obtain ⟨e,_,rfl⟩:=Go.Conc.mem_ofEvents hop; rfl) (fun op hop b hb=>by obtain ⟨e,hm,rfl⟩:=Go.Conc.mem_ofEvents hop; exact ⟨fun x=>x.elim,(evZ_L (he e hm)).1 b hb⟩) (by rw [Deaf_own,C.past.deafh]; exact deafBehind_still (fun e hm=>⟨(evZ_L (he e hm)).2.1,(evZ_L (he e hm)).2.2.1⟩) _) (fun op hop=>by obtain ⟨e,hm,rfl⟩:=Go.Conc.mem_ofEvents hop; exact (evZ_L (he e hm)).2.2.2),hf,rfl,fun c lo hi hz=>let ⟨k,hk⟩:=C.rest c lo hi hz; ⟨k,hH.chan c _ _ hz hk (by simp)⟩,fun b hz=>?_⟩,Array.getElem?_setIfInBounds_self_of_lt (by simpa using hlt)⟩
 . have hne : 0 ≠ j:=by omega
   rw [Array.getElem?_setIfInBounds_ne hne,Array.getElem?_map] at hx
   obtain ⟨y,hy,rfl⟩:=Option.map_eq_some_iff.1 hx
   have hq:=C.lv.old j y hj hy
   rw [woken_quitsD hq,Deaf_other T (by omega) _ (fun op hop=>by obtain ⟨e,_,rfl⟩:=Go.Conc.mem_ofEvents hop; rfl)]
   exact hq
 . rw [Deaf_other T (g':=0) (by simp at hj; omega) _ (fun op hop=>by obtain ⟨e,_,rfl⟩:=Go.Conc.mem_ofEvents hop; rfl)]
   exact C.lv.above j (by simpa using hj)
 . obtain ⟨c,e,h1,h2,h3⟩:=C.nul b hz
   obtain ⟨c',h4,h5,h6⟩:=hH.cells b 3 0 0 c e _ hz h1
   exact ⟨c',e,h4,by rw [h6 3 (.inl (Nat.le_refl _))]; exact h2,by rw [h6 4 (.inl (by omega))]; exact h3⟩
theorem Ald.walk {Stop : Goroutine -> World -> Prop} {a : Goroutine} (hW : Will P true Z Stop a V) :
   ∀ {T : Trace} {gs : Array Goroutine} {w : World} {q : Nat -> Nat} {sl : Option (Nat × Nat)},gs[0]? = some a -> Ald P Z V dm T gs w q ->
   ∃ (N : Nat) (gs' : Array Goroutine) (a' : Goroutine) (w' V' : World) (sl' : Option (Nat × Nat)) (T' : Trace) (q' : Nat -> Nat),runNT P N (crowd gs w sl) T = (.next (crowd gs' w' sl'),T') /\ gs'.size = gs.size /\ gs'[0]? = some a' /\ Stop a' V' /\ Ald P Z V' dm T' gs' w' q' /\ Kin w w':=by
 induction hW with
 | @stop g V hs =>
   intro T gs w q sl ha C
   exact ⟨0,gs,g,w,V,sl,T,q,rfl,rfl,ha,hs,C,Kin.refl _⟩
 | @step g V hr h1 h2 ih =>
   intro T gs w q sl ha C
   obtain ⟨N,gsQ,wY,d',slQ,slY,TQ,qQ,hrn,hst,hsz,haQ,CQ,kn⟩:=C.picked (sl:=sl) ha hr
   obtain ⟨g',w',es,hgo,hH,hf,he⟩:=h1 (wY.at d') CQ.view CQ.fit
   have hrt:=runT_crowd_go (P:=P) (sl:=slY) (i:=0) haQ (show stepG P (0 == 0) g (wY.at d') = _ from hgo)
   obtain ⟨CY,haY⟩:=CQ.own (a':=g') haQ hH hf he
   obtain ⟨N',gs',a',w'',V',sl',T',q',hrn',hsz',ha',hS,C',kn'⟩:=ih (wY.at d') g' w' es CQ.view CQ.fit hgo (sl:=slY) haY CY
   exact ⟨N + 1 + N',gs',a',w'',V',sl',T',q',runNT_then (runNT_succ_of hrn (hst.trans hrt)) hrn',hsz'.trans (by simpa using hsz),ha',hS,C',(kn.trans (Kin.ofAt (Kin.hid hH))).trans kn'⟩
def EvMk (B : Nat) (e : Event) : Prop:=(MemAct.ofEvent e).touch? = none /\ (MemAct.ofEvent e).low B
theorem Ald.mark (C : Ald P Z V dm T gs w q) {a a' : Goroutine} {es : Array Event} {sl : Option (Nat × Nat)} (ha : gs[0]? = some a) (hrun : a.status = .running)
   (hs : ∀ w,pz Z w = V -> Fit P Z w -> stepG P true a w = .go a' w es /\ ∀ e ∈ es,EvMk w.heap.size e) :
   ∃ (N : Nat) (gs' : Array Goroutine) (w' : World) (sl' : Option (Nat × Nat)) (T' : Trace) (q' : Nat -> Nat),runNT P N (crowd gs w sl) T = (.next (crowd gs' w' sl'),T') /\ gs'[0]? = some a' /\ Ald P Z V (deafBehind dm es) T' gs' w' q' /\ Kin w w':=by
 obtain ⟨N,gsQ,wY,d',slQ,slY,TQ,qQ,hrn,hst,hsz,haQ,CQ,kn⟩:=C.picked (sl:=sl) ha hrun
 obtain ⟨hgo,he⟩:=hs (wY.at d') CQ.view CQ.fit
 have hlt : 0 < gsQ.size:=(Array.getElem?_eq_some_iff.1 haQ).1
 have hops : ∀ op ∈ MemOp.ofEvents 0 a.frame.fn a.frame.place es,op.g = 0:=fun op hop=>by obtain ⟨e,_,rfl⟩:=Go.Conc.mem_ofEvents hop; rfl
 have hrt:=runT_crowd_go (P:=P) (sl:=slY) (i:=0) haQ (show stepG P (0 == 0) a (wY.at d') = _ from hgo)
 refine ⟨N + 1,_,_,slY,_,qQ,runNT_succ_of hrn (hst.trans hrt),Array.getElem?_setIfInBounds_self_of_lt (by simpa using hlt),⟨⟨fun j x hj hx=>?_,fun j hj=>?_⟩,?_,CQ.fit,CQ.view,CQ.rest,CQ.nul⟩,kn.at d'⟩
 . have hne : 0 ≠ j:=by omega
   rw [Array.getElem?_setIfInBounds_ne hne,Array.getElem?_map] at hx
   obtain ⟨y,hy,rfl⟩:=Option.map_eq_some_iff.1 hx
   have hq:=CQ.lv.old j y hj hy
   rw [woken_quitsD hq,Deaf_other _ (by omega) _ hops]
   exact hq
 . rw [Deaf_other _ (g':=0) (by simp at hj; omega) _ hops]
   exact CQ.lv.above j (by simpa using hj)
 . exact CQ.past.appH hops (fun op hop b hb=>by
     obtain ⟨e,hm,rfl⟩:=Go.Conc.mem_ofEvents hop
     rw [(he e hm).1] at hb
     cases hb) (by rw [Deaf_own,CQ.past.deafh]) (fun op hop=>by
     obtain ⟨e,hm,rfl⟩:=Go.Conc.mem_ofEvents hop
     exact (he e hm).2)
theorem handed_of (H : PastR (fun _=>False) (shunZ Z) (fun g=>g = 0) (fun _=>False) w.heap.size 0 0 T) : T.HandedOver:=fun i g hg hne ⟨x,hx,hm,hk⟩=>by
 rcases H.known i x hx hm with ⟨p,z,hp,hz,hb⟩ | ⟨_,hf,_⟩ | ⟨_,hka,hnh⟩
 . rcases hb with rfl | hb
   . rw [g?_of hp,hz] at hg
     exact absurd (Option.some.inj hg).symm hne
   . exact ⟨p,by rw [g?_of hp,hz],hb⟩
 . exact hf.elim
 . rcases hk with h1 | h1
   . exact absurd hka h1
   . exact absurd h1 hnh
theorem Al.ends {Post : Value -> World -> Prop} (C : Al P Z V T gs w q) {a : Goroutine} {sl : Option (Nat × Nat)} (ha : gs[0]? = some a) (hrun : a.status = .running)
   (hend : ∀ w,pz Z w = V -> Fit P Z w -> ∃ v es,stepG P true a w = .ended (.done v) w es /\ (∀ e ∈ es,EvZ Z w.heap.size e) /\ Post v w) :
   ∃ N last o w' t',runNT P (N + 1) (crowd gs w sl) T = (.ended o w',t') /\ runN P N (crowd gs w sl) = .next last /\ step P last = .ended o w' /\ Go.Conc.Good P (fun v w'=>Kin w w' /\ Post v w') last o w' t':=by
 obtain ⟨N,gsQ,wY,d',slQ,slY,TQ,qQ,hrn,hst,hsz,haQ,CQ,kn⟩:=C.picked (sl:=sl) ha hrun
 obtain ⟨v,es,he,hev,hpost⟩:=hend (wY.at d') CQ.view CQ.fit
 have hrt:=runT_many_ended (P:=P) (sl:=slY) (i:=0) haQ (show stepG P (0 == 0) a (wY.at d') = _ from he)
 have hown : ∀ op ∈ MemOp.ofEvents 0 a.frame.fn a.frame.place es,op.g = 0:=fun op hop=>by obtain ⟨e,_,rfl⟩:=Go.Conc.mem_ofEvents hop; rfl
 have hP:=CQ.past.appH (d':=0) hown (fun op hop b hb=>by obtain ⟨e,hm,rfl⟩:=Go.Conc.mem_ofEvents hop; exact ⟨fun x=>x.elim,(evZ_L (hev e hm)).1 b hb⟩) (by rw [Deaf_own,CQ.past.deafh]; exact deafBehind_still (fun e hm=>⟨(evZ_L (hev e hm)).2.1,(evZ_L (hev e hm)).2.2.1⟩) _) (fun op hop=>by obtain ⟨e,hm,rfl⟩:=Go.Conc.mem_ofEvents hop; exact (evZ_L (hev e hm)).2.2.2)
 refine ⟨N,crowd gsQ wY slQ,_,_,_,by rw [runNT_add,hrn]; simp only [runNT,hst,hrt],?_,?_,v,rfl,⟨kn.at d',hpost⟩,hP.clean,handed_of hP,⟨fun x hx=>?_,rfl⟩,fun j x hx hj=>?_⟩
 . rw [← runNT_fst _ _ _ T,hrn]
 . simp only [step,hst,hrt]
 . obtain ⟨j,hj⟩:=List.mem_iff_getElem?.1 hx
   rw [List.getElem?_drop] at hj
   exact ⟨_,(CQ.lv.old (1 + j) x (by omega) (by simpa [crowd] using hj)).leaves⟩
 . have hq:=CQ.lv.old j x (by omega) hx
   refine ⟨qQ j,?_⟩
   have e : (TQ ++ MemOp.ofEvents 0 a.frame.fn a.frame.place es).deaf j (TQ ++ MemOp.ofEvents 0 a.frame.fn a.frame.place es).size = Deaf TQ j:=Deaf_other TQ (g:=j) (g':=0) (by omega) _ hown
   rw [e]
   exact hq.hears _
end
section
variable {P : Program} {Lst : Nat -> Nat -> Goroutine -> Prop} {Z : Cuts} {V : World} {T : Trace} {gs : Array Goroutine} {w : World} {q : Nat -> Nat}
def role0 : Nat -> Role:=fun i=>if i = 0 then .fin else .quit
theorem counts0 (n : Nat) : sumTo n (counts role0) = 0:=by
 induction n with
 | zero=>rfl
 | succ n ih =>
   simp only [sumTo,ih]
   by_cases e : n = 0
   . simp [counts,e]
   . simp [counts,role0,e]
theorem Al.begin (C : Al P Z V T gs w q) {E : Env} (hpos : 0 < gs.size) (hsub : ∀ l,shunZ Z l -> E.shun l) (hnew : ∀ i x,touchAt T i = some x -> E.shun x.loc -> x.kind ≠ .plain) (hE : EnvOk E)
   (hK : KW P E w) (hrest : ∀ c lo hi,E.Z c = some (0,lo,hi) -> ∃ k,w.heap[c]? = some (.chan 0 #[] false k k false)) (hst : w.cell? E.st = some (.int .u64 0)) (hsm : w.cell? E.sm = some (.int .u32 0)) :
   Rg P E Lst role0 0 0 0 (pz E.Z w) T gs w q:=by
 refine ⟨fun i g hi hg=>?_,hrest,fun i c z r hr=>?_,fun i i' c z z' r r' hr _=>?_,rfl,fun j hj=>?_,?_,hK,rfl,?_,?_,hsm⟩
 . have : role0 i = .quit:=by simp [role0,hi]
   rw [this]
   exact ⟨Nat.pos_of_ne_zero hi,C.lv.old i g (Nat.pos_of_ne_zero hi) hg⟩
 . unfold role0 at hr; split at hr <;> cases hr
 . unfold role0 at hr; split at hr <;> cases hr
 . have hj0 : j ≠ 0:=by omega
   exact ⟨C.lv.above j hj,by simp [role0,hj0]⟩
 . refine ⟨C.past.clean,fun i x hx hm=>?_,hnew,fun i x hx hw hS g hg=>?_,fun g hg hne=>?_,C.past.deafh,C.past.seen⟩
   . rcases C.past.known i x hx hm with h1 | ⟨_,h2,_⟩ | ⟨h1,h2,h3⟩
     . exact .inl h1
     . exact h2.elim
     . exact .inr (.inr ⟨hsub _ h1,h2,h3⟩)
   . have hg0 : g = 0:=by
       rcases hg with h1 | h1
       . exact h1
       . unfold role0 at h1; split at h1 <;> cases h1
     subst hg0
     have hm : x.loc.isMemory = true:=by obtain ⟨a,ha,_⟩:=hS; rw [ha]; rfl
     rcases C.past.known i x hx hm with h1 | ⟨_,h2,_⟩ | ⟨h1,_⟩
     . exact h1
     . exact h2.elim
     . exact absurd (hsub _ h1) (still_shun hE _ hS)
   . rcases hg with h1 | h1
     . exact absurd h1 hne
     . unfold role0 at h1; split at h1 <;> cases h1
 . rw [counts0]; simpa [two32] using hst
 . rw [counts0]; decide
end
def addZ (Z : Cuts) (b : Nat) (s : Nat × Nat × Nat) : Cuts:=fun b'=>if b' = b then some s else Z b'
def BornOk (o : Obj) (s : Nat × Nat × Nat) : Prop :=
 (∃ c e k lo hi,o = .cells c e (0,0) /\ s = (k + 1,lo,hi) /\ (s = (3,0,0) -> c[3]? = some (.int .u64 0) /\ c[4]? = some (.int .u32 0))) ∨ (o = .chan 0 #[] false 0 0 false /\ s = (0,0,0))
theorem low_touch {x : MemAct} {B : Nat} {a : Touch} {l : Addr} (h : x.low B) (ha : x.touch? = some a) (hl : a.loc = .cell l) : l.block < B:=by
 cases x with
 | access e =>
   simp only [MemAct.touch?,Option.some.injEq] at ha
   subst ha
   simp only at hl
   simp only [MemAct.low,hl] at h
   exact h
 | mark m =>
   cases m <;> simp only [MemAct.touch?,Option.some.injEq,reduceCtorEq] at ha <;> subst ha <;> simp only [Loc.cell.injEq] at hl <;> subst hl <;> exact h
 | _=>simp [MemAct.touch?] at ha
section
variable {P : Program} {Z : Cuts} {V : World} {T : Trace} {gs : Array Goroutine} {w : World} {q : Nat -> Nat}
theorem pushed_get {w : World} {o : Obj} (b : Nat) : ({ w with heap:=w.heap.push o } : World).heap[b]? = if b = w.heap.size then some o else w.heap[b]?:=by
 show (w.heap.push o)[b]? = _
 rw [Array.getElem?_push]
theorem Al.alloc (C : Al P Z V T gs w q) {a a' : Goroutine} {o : Obj} {s : Nat × Nat × Nat} (hbo : BornOk o s) {sl : Option (Nat × Nat)} (ha : gs[0]? = some a) (hrun : a.status = .running)
   (hs : ∀ w,pz Z w = V -> Fit P Z w -> stepG P true a w = .go a' { w with heap:=w.heap.push o } #[]) :
   ∃ (N : Nat) (gs' : Array Goroutine) (w' : World) (sl' : Option (Nat × Nat)) (T' : Trace) (q' : Nat -> Nat),runNT P N (crowd gs w sl) T = (.next (crowd gs' w' sl'),T') /\ gs'.size = gs.size /\ gs'[0]? = some a' /\
     w'.heap.size = V.heap.size + 1 /\ w'.heap[V.heap.size]? = some o /\ Al P (addZ Z V.heap.size s) (pz (addZ Z V.heap.size s) w') T' gs' w' q' /\
     pz (addZ Z V.heap.size s) w' = { V with heap:=V.heap.push (pobj (some s) o) } /\ (∀ i x,touchAt T' i = some x -> (∀ l,x.loc = .cell l -> l.block < V.heap.size)) /\ Kin w w':=by
 obtain ⟨N,gsQ,wQ,d',slQ,slY,TQ,qQ,hrn,hst,hsz,haQ,CQ,kn⟩:=C.picked (sl:=sl) ha hrun
 have kn1:=kn.at d'
 generalize hw1 : wQ.at d' = wY at *
 have hgo:=hs wY CQ.view CQ.fit
 have hrt:=runT_crowd_go (P:=P) (sl:=slY) (i:=0) haQ (show stepG P (0 == 0) a wY = _ from hgo)
 have hV : V.heap.size = wY.heap.size:=by rw [← CQ.view]; simp [pz]
 rw [hV]
 have hlt : 0 < gsQ.size:=(Array.getElem?_eq_some_iff.1 haQ).1
 have hZn : Z wY.heap.size = none:=by
   cases hz : Z wY.heap.size with
   | none=>rfl
   | some s =>
     obtain ⟨_,o,ho,_⟩:=CQ.fit.cut _ _ hz
     have:=(Array.getElem?_eq_some_iff.1 ho).1
     omega
 have hT : TQ ++ MemOp.ofEvents 0 a.frame.fn a.frame.place #[] = TQ:=by simp [MemOp.ofEvents]
 have hseen : ∀ i x,touchAt TQ i = some x -> ∀ l,x.loc = .cell l -> l.block < wY.heap.size:=fun i x hx l hl=>by
   obtain ⟨op,hop,hox⟩:=touch_of hx
   exact low_touch (CQ.past.seen op (Array.mem_of_getElem? hop)) hox hl
 have hr2:=runNT_succ_of hrn (hst.trans hrt)
 rw [hT] at hr2
 refine ⟨N + 1,_,_,slY,TQ,qQ,hr2,by simpa using hsz,Array.getElem?_setIfInBounds_self_of_lt (by simpa using hlt),by simp,by simp,⟨⟨fun j x hj hx=>?_,fun j hj=>?_⟩,?_,?_,rfl,fun c lo hi hz=>?_,fun b hz=>?_⟩,?_,hseen,kn1.trans (Kin.push _ _ (fun a u e=>by rcases hbo with ⟨c,el,k,lo',hi',h,_⟩ | ⟨h,_⟩ <;> simp [h] at e))⟩
 . have hne : 0 ≠ j:=by omega
   rw [Array.getElem?_setIfInBounds_ne hne,Array.getElem?_map] at hx
   obtain ⟨y,hy,rfl⟩:=Option.map_eq_some_iff.1 hx
   have hq:=CQ.lv.old j y hj hy
   rw [woken_quitsD hq]
   exact hq
 . exact CQ.lv.above j (by simpa using hj)
 . have hP:=CQ.past.mono (B':=wY.heap.size + 1) (Nat.le_succ _)
   refine ⟨hP.clean,fun i x hx hm=>?_,fun i x hx hS=>?_,hP.wrote,hP.hears,hP.deafh,by simpa using hP.seen⟩
   . rcases hP.known i x hx hm with h1 | h2 | ⟨⟨l,k',lo,hi,e,hz,hk⟩,h2,h3⟩
     . exact .inl h1
     . exact .inr (.inl h2)
     . refine .inr (.inr ⟨⟨l,k',lo,hi,e,?_,hk⟩,h2,h3⟩)
       unfold addZ
       rw [if_neg]
       . exact hz
       . intro e'
         rw [e',hZn] at hz; cases hz
   . obtain ⟨l,k',lo,hi,e,hz,hk⟩:=hS
     have hb:=hseen i x hx l e
     refine hP.shun i x hx ⟨l,k',lo,hi,e,?_,hk⟩
     unfold addZ at hz
     rw [if_neg (by omega)] at hz
     exact hz
 . have hg : P.globals.size <= wY.heap.size:=by
     rcases Nat.lt_or_ge wY.heap.size P.globals.size with h | h
     . obtain ⟨_,_,_,hh⟩:=CQ.fit.glob _ h
       have:=(Array.getElem?_eq_some_iff.1 hh).1
       omega
     . exact h
   refine ⟨fun b s hb=>?_,fun b k' lo hi hb=>?_,fun b lo hi hb=>?_,fun b hb=>?_,CQ.fit.bad⟩
   . unfold addZ at hb
     rw [pushed_get]
     split at hb
     . rename_i e
       subst e
       refine ⟨hg,_,by rw [if_pos rfl],?_⟩
       rcases hbo with ⟨c,e,k,lo,hi,rfl,_⟩ | ⟨rfl,_⟩
       . exact .inl ⟨_,_,rfl⟩
       . exact .inr ⟨_,_,_,_,_,_,rfl⟩
     . rename_i e
       obtain ⟨g1,o,g2,g3⟩:=CQ.fit.cut b s hb
       exact ⟨g1,o,by rw [if_neg e]; exact g2,g3⟩
   . unfold addZ at hb
     rw [pushed_get]
     split at hb
     . rename_i e
       rcases hbo with ⟨c,el,k,lo',hi',rfl,_⟩ | ⟨_,rfl⟩
       . exact ⟨_,_,_,by rw [if_pos e]⟩
       . simp at hb
     . rename_i e
       rw [if_neg e]; exact CQ.fit.rows b k' lo hi hb
   . unfold addZ at hb
     rw [pushed_get]
     split at hb
     . rename_i e
       rcases hbo with ⟨c,el,k,lo',hi',_,rfl,_⟩ | ⟨rfl,_⟩
       . simp at hb
       . exact ⟨_,_,_,_,_,_,by rw [if_pos e]⟩
     . rename_i e
       rw [if_neg e]; exact CQ.fit.chans b lo hi hb
   . rw [pushed_get,if_neg (by omega)]
     exact CQ.fit.glob b hb
 . unfold addZ at hz
   rw [pushed_get]
   split at hz
   . rename_i e
     rcases hbo with ⟨c,el,k,lo',hi',_,rfl,_⟩ | ⟨rfl,_⟩
     . simp at hz
     . exact ⟨0,by rw [if_pos e]⟩
   . rename_i e
     rw [if_neg e]; exact CQ.rest c lo hi hz
 . unfold addZ at hz
   rw [pushed_get]
   split at hz
   . rename_i e
     rcases hbo with ⟨c,el,k,lo',hi',rfl,rfl,h3⟩ | ⟨_,rfl⟩
     . obtain ⟨h4,h5⟩:=h3 (by simpa using hz)
       exact ⟨c,el,by rw [if_pos e],h4,h5⟩
     . simp at hz
   . rename_i e
     rw [if_neg e]; exact CQ.nul b hz
 . rw [← CQ.view]
   unfold pz
   simp only
   congr 1
   apply Array.ext_getElem?
   intro b
   rw [Array.getElem?_mapIdx,Array.getElem?_push,Array.getElem?_push,Array.getElem?_mapIdx,Array.size_mapIdx]
   by_cases e : b = wY.heap.size
   . subst e
     simp [addZ]
   . simp [addZ,e]
end
def Ends (P : Program) (Post : Value -> World -> Prop) (m : Machine) (T : Trace) : Prop :=
 ∃ N last o w' t',runNT P (N + 1) m T = (.ended o w',t') /\ runN P N m = .next last /\ step P last = .ended o w' /\ Go.Conc.Good P Post last o w' t'
theorem Ends.of_steps {P : Program} {Post : Value -> World -> Prop} {m m' : Machine} {T T' : Trace} {N : Nat} (h : runNT P N m T = (.next m',T')) (h' : Ends P Post m' T') : Ends P Post m T:=by
 obtain ⟨N',last,o,w',t',h1,h2,h3,h4⟩:=h'
 have e1 : runN P N m = .next m':=by rw [← runNT_fst _ _ _ T,h]
 refine ⟨N + N',last,o,w',t',?_,?_,h3,h4⟩
 . rw [show N + N' + 1 = N + (N' + 1) by omega,runNT_add,h]; exact h1
 . rw [← runNT_fst _ _ _ T,runNT_add,h]
   simp only
   rw [runNT_fst]; exact h2
theorem Ends.kin {P : Program} {Post : Value -> World -> Prop} {w wY : World} {m : Machine} {T : Trace} (k : Kin w wY) (h : Ends P (fun v w'=>Kin wY w' /\ Post v w') m T) : Ends P (fun v w'=>Kin w w' /\ Post v w') m T:=by
 obtain ⟨N,last,o,w',t',h1,h2,h3,v,h4,h5,h6⟩:=h
 exact ⟨N,last,o,w',t',h1,h2,h3,v,h4,⟨k.trans h5.1,h5.2⟩,h6⟩
def To0 (P : Program) (Post : Value -> World -> Prop) (Z : Cuts) (V : World) (g : Goroutine) : Prop :=
 ∀ (T : Trace) (gs : Array Goroutine) (w : World) (q : Nat -> Nat) (sl : Option (Nat × Nat)),gs[0]? = some g -> Al P Z V T gs w q -> Ends P (fun v w'=>Kin w w' /\ Post v w') (crowd gs w sl) T
def To (P : Program) (Post : Value -> World -> Prop) (E : Env) (Lst : Nat -> Nat -> Goroutine -> Prop) (h dh pend n : Nat) (role : Nat -> Role) (V : World) (g : Goroutine) : Prop :=
 ∀ (T : Trace) (gs : Array Goroutine) (w : World) (q : Nat -> Nat) (role' : Nat -> Role) (sl : Option (Nat × Nat)),RoleLe role role' -> gs.size = n -> gs[h]? = some g -> Rg P E Lst role' h dh pend V T gs w q -> Ends P (fun v w'=>Kin w w' /\ Post v w') (crowd gs w sl) T
section
variable {P : Program} {Post : Value -> World -> Prop} {Z : Cuts} {V : World} {g : Goroutine} {E : Env} {Lst : Nat -> Nat -> Goroutine -> Prop} {h dh pend n : Nat} {role : Nat -> Role}
theorem To0.walk (hW : Will P true Z (fun g V=>To0 P Post Z V g) g V) : To0 P Post Z V g:=fun T gs w q sl ha C=>by
 obtain ⟨N,gs',a',w',V',sl',T',q',hr,hsz,ha',hS,C',kn⟩:=Ald.walk hW (sl:=sl) ha C
 exact Ends.of_steps hr (Ends.kin kn (hS T' gs' w' q' sl' ha' C'))
theorem To0.ends (hrun : g.status = .running) (hend : ∀ w,pz Z w = V -> Fit P Z w -> ∃ v es,stepG P true g w = .ended (.done v) w es /\ (∀ e ∈ es,EvZ Z w.heap.size e) /\ Post v w) : To0 P Post Z V g:=fun T gs w q sl ha C=>by
 obtain ⟨N,last,o,w',t',h1,h2,h3,h4⟩:=C.ends (sl:=sl) ha hrun hend
 exact ⟨N,last,o,w',t',h1,h2,h3,h4⟩
theorem To.walk (hE : EnvOk E) (hW : Will P (h == 0) E.Z (fun g V=>To P Post E Lst h dh pend n role V g) g V) : To P Post E Lst h dh pend n role V g:=fun T gs w q role' sl hle hsz ha C=>by
 obtain ⟨N,gs',a',w',V',sl',T',q',role'',hr,hsz',ha',hS,hle',C',kn⟩:=Rg.walk hE hW (sl:=sl) ha C
 exact Ends.of_steps hr (Ends.kin kn (hS T' gs' w' q' role'' sl' (hle.trans hle') (hsz'.trans hsz) ha' C'))
theorem To.mark (hE : EnvOk E) {g' : Goroutine} {es : Array Event} (hrun : g.status = .running) (hs : ∀ w,pz E.Z w = V -> SW P E w -> stepG P (h == 0) g w = .go g' w es) (he : ∀ w,KW P E w -> ∀ e ∈ es,EvM E w.heap.size e)
   (K : To P Post E Lst h (deafBehind dh es) pend n role V g') : To P Post E Lst h dh pend n role V g:=fun T gs w q role' sl hle hsz ha C=>by
 obtain ⟨N,gs',w',sl',T',q',role'',hr,hsz',ha',hle',C',kn⟩:=C.mark hE (sl:=sl) ha hrun hs he
 exact Ends.of_steps hr (Ends.kin kn (K T' gs' w' q' role'' sl' (hle.trans hle') (hsz'.trans hsz) ha' C'))
theorem To.still (hE : EnvOk E) {g' : Goroutine} (hrun : g.status = .running) (hs : ∀ w,pz E.Z w = V -> SW P E w -> stepG P (h == 0) g w = .go g' w #[]) (K : To P Post E Lst h dh pend n role V g') : To P Post E Lst h dh pend n role V g :=
 To.mark hE hrun hs (fun _ _ e he=>by simp at he) K
theorem To.addOne (hE : EnvOk E) {g' : Nat -> Goroutine} (hrun : g.status = .running) (hn : sumTo n (counts role) + pend + 1 < 2147483647)
   (hs : ∀ w (v : Nat),pz E.Z w = V -> KW P E w -> v + 1 < 2147483647 -> w.cell? E.st = some (.int .u64 (v * two32)) -> stepG P (h == 0) g w = .go (g' (v + 1)) (w.setCell E.st (.int .u64 ((v + 1 : Nat) * two32))) #[⟨.cell E.st,false,true⟩,⟨.cell E.st,true,true⟩])
   (K : ∀ v,0 < v -> v < 2147483647 -> To P Post E Lst h dh (pend + 1) n role V (g' v)) : To P Post E Lst h dh pend n role V g:=fun T gs w q role' sl hle hsz ha C=>by
 obtain ⟨N,gs',w',sl',T',q',role'',v,hr,hsz',ha',hv,hv',hle',C',kn⟩:=C.addOne hE (sl:=sl) ha hrun (by have:=sum_le (counts_le hle) gs.size; rw [hsz] at this ⊢; omega) hs
 exact Ends.of_steps hr (Ends.kin kn (K v hv hv' T' gs' w' q' role'' sl' (hle.trans hle') (hsz'.trans hsz) ha' C'))
theorem RoleLe.upd {rQ rY : Nat -> Role} (hle : RoleLe rQ rY) (i : Nat) (x : Role) : RoleLe (upd rQ i x) (upd rY i x):=fun y=>by
 by_cases e : y = i
 . subst e; rw [upd_same,upd_same]; exact .inl rfl
 . rw [upd_ne _ _ e,upd_ne _ _ e]; exact hle y
theorem To.give (hE : EnvOk E) {aX : Goroutine} {j c : Nat} {v z z' : Value} {r : Goroutine} (hjh : j ≠ h) (hjn : j < n) (hj : role j = .seat c z r) (hrun : g.status = .running)
   (hsend : ∀ w,pz E.Z w = V -> KW P E w -> ∃ es,(∀ e ∈ es,EvZ E.Z w.heap.size e) /\ stepG P (h == 0) g w = .comm aX #[scase c v z'] true .send w es)
   {rh : Role} (hrq : rh ≠ .quit) (hrh : ∀ c' z' r',rh = .seat c' z' r' -> (∃ lo hi,E.Z c' = some (0,lo,hi)) /\ ∀ x z'' r'',role x ≠ .seat c' z'' r'') {nh : Nat} (hafter : ∀ T',Deaf T' h = 0 -> Idle P E Lst T' h nh (Go.Conc.served aX undef) rh)
   (K : To P Post E Lst j 0 pend n (upd (upd role h rh) j .fin) V (Go.Conc.served r (recvd false v true))) : To P Post E Lst h 0 pend n role V g:=fun T gs w q role' sl hle hsz ha C=>by
 obtain ⟨N,gs',w',sl',T',q',role'',hr,hsz',ha',hle',C',kn⟩:=C.give hE (sl:=sl) hjh (by omega) (hle.seat hj) ha hrun hsend hrq (fun c' z1 r1 e=>⟨(hrh c' z1 r1 e).1,fun x z2 r2 e2=>(hrh c' z1 r1 e).2 x z2 r2 (hle.seat' e2)⟩) hafter
 exact Ends.of_steps hr (Ends.kin kn (K T' gs' w' q' role'' sl' (((hle.upd h rh).upd j .fin).trans hle') (hsz'.trans hsz) ha' C'))
theorem To.hire (hE : EnvOk E) {g' child : Goroutine} (hrun : g.status = .running)
   (hgo : ∀ w,pz E.Z w = V -> KW P E w -> ∃ es,(∀ e ∈ es,EvZ E.Z w.heap.size e) /\ stepG P (h == 0) g w = .spawn g' child w es)
   {rh : Role} (hrq : rh ≠ .quit) (hrh : ∀ c' z' r',rh = .seat c' z' r' -> (∃ lo hi,E.Z c' = some (0,lo,hi)) /\ ∀ x z'' r'',role x ≠ .seat c' z'' r'') {nh : Nat} (hafter : ∀ T',Deaf T' h = 0 -> Idle P E Lst T' h nh g' rh)
   (K : To P Post E Lst n 0 pend (n + 1) (upd (upd role h rh) n .fin) V child) : To P Post E Lst h 0 (pend + 1) n role V g:=fun T gs w q role' sl hle hsz ha C=>by
 subst hsz
 obtain ⟨N,gs',w',sl',T',q',role'',hr,hsz',ha',hle',C',kn⟩:=C.hire hE (sl:=sl) ha hrun hgo hrq (fun c' z1 r1 e=>⟨(hrh c' z1 r1 e).1,fun x z2 r2 e2=>(hrh c' z1 r1 e).2 x z2 r2 (hle.seat' e2)⟩) hafter
 exact Ends.of_steps hr (Ends.kin kn (K T' gs' w' q' role'' sl' (((hle.upd h rh).upd _ .fin).trans hle') hsz' ha' C'))
end
inductive Las (P : Program) (E : Env) : Nat -> Nat -> Nat -> Goroutine -> Prop
 | plain {s n d : Nat} {g g' : Goroutine} (hr : g.status = .running) (hs : ∀ w,SW P E w -> stepG P false g w = .go g' w #[]) (h : Las P E s n d g') : Las P E s (n + 1) d g
 | load {n d : Nat} {g g' : Goroutine} (hr : g.status = .running) (hs : ∀ w,KW P E w -> w.cell? E.st = some (.int .u64 1) -> stepG P false g w = .go g' w #[⟨.cell E.st,false,true⟩]) (h : Las P E 2 n (d + 1) g') : Las P E 3 (n + 1) (d + 1) g
 | store {n d : Nat} {g g' : Goroutine} (hr : g.status = .running) (hs : ∀ w,KW P E w -> w.cell? E.st = some (.int .u64 1) -> stepG P false g w = .go g' (w.setCell E.st (.int .u64 0)) #[⟨.cell E.st,true,true⟩]) (h : Las P E 1 n (d + 1) g') : Las P E 2 (n + 1) (d + 1) g
 | rel {n d : Nat} {g g' : Goroutine} (hr : g.status = .running) (hs : ∀ w,KW P E w -> w.cell? E.sm = some (.int .u32 0) -> stepG P false g w = .go g' (w.setCell E.sm (.int .u32 1)) (semEvents E.sm)) (hwk : mayWake P g = true) (hr' : g'.status = .running) (h : QuitsD P n (d + 1) g') : Las P E 1 (n + 1) (d + 1) g
inductive Ro where
 | fin
 | quit
 | las (s : Nat)
def IdleB (P : Program) (E : Env) (T : Trace) (i n : Nat) (g : Goroutine) : Ro -> Prop
 | .fin=>Fin P E (Las P E 3) n (Deaf T i) g
 | .quit=>QuitsD P n (Deaf T i) g
 | .las s=>Las P E s n (Deaf T i) g
def fins (ro : Nat -> Ro) (i : Nat) : Nat:=if i = 0 then 0 else match ro i with | .fin=>1 | _=>0
inductive MB (n : Nat) (ro : Nat -> Ro) : Int -> Int -> Prop
 | reg (h : ∀ i,0 < i -> i < n -> ro i = .fin ∨ ro i = .quit) (v : Nat) (hv : sumTo n (fins ro) = v + 1) (hb : v + 1 < 2147483647) : MB n ro ((v + 1 : Nat) * two32 + 1) 0
 | las (k s : Nat) (hk : 0 < k) (hkn : k < n) (h : ro k = .las s) (hs : s = 1 ∨ s = 2 ∨ s = 3) (ho : ∀ i,0 < i -> i < n -> i ≠ k -> ro i = .quit) : MB n ro (if s = 1 then 0 else 1) 0
 | sema (h : ∀ i,0 < i -> i < n -> ro i = .quit) : MB n ro 0 1
structure Wb (P : Program) (E : Env) (ro : Nat -> Ro) (dh : Nat) (V : World) (T : Trace) (gs : Array Goroutine) (w : World) (q : Nat -> Nat) (st sm : Int) : Prop where
 idle : ∀ i g,0 < i -> gs[i]? = some g -> IdleB P E T i (q i) g (ro i)
 rest : ∀ c lo hi,E.Z c = some (0,lo,hi) -> ∃ k,w.heap[c]? = some (.chan 0 #[] false k k false)
 above : ∀ j,gs.size <= j -> Deaf T j = 0
 past : PastR (fun _=>False) E.shun (fun g=>g = 0) (fun _=>False) w.heap.size 0 dh T
 keep : KW P E w
 view : pz E.Z w = V
 cst : w.cell? E.st = some (.int .u64 st)
 csm : w.cell? E.sm = some (.int .u32 sm)
 mode : MB gs.size ro st sm
def AtSem (P : Program) (E : Env) (gY g : Goroutine) : Prop :=
 g.status = .running /\ g.offers = none /\ (∀ w,KW P E w -> w.cell? E.sm = some (.int .u32 0) -> stepG P true g w = .go { g with status:=.blocked } w #[]) /\
   ∀ w,KW P E w -> w.cell? E.sm = some (.int .u32 1) -> stepG P true g w = .go gY (w.setCell E.sm (.int .u32 0)) (semEvents E.sm)
inductive Wy (P : Program) (E : Env) (gY : Goroutine) : Nat -> Goroutine -> Prop
 | plain {n : Nat} {g g' : Goroutine} (hr : g.status = .running) (hs : ∀ w,SW P E w -> stepG P true g w = .go g' w #[]) (h : Wy P E gY n g') : Wy P E gY (n + 1) g
 | said {n : Nat} {g g' : Goroutine} (hr : g.status = .running) (hs : ∀ w,SW P E w -> stepG P true g w = .go g' w #[⟨.mark (.write E.sm),false,true⟩]) (h : Wy P E gY n g') : Wy P E gY (n + 1) g
 | here {g : Goroutine} (h : AtSem P E gY g) : Wy P E gY 1 g
def Main (P : Program) (E : Env) (gY : Goroutine) (sm : Int) (m : Nat) (a : Goroutine) : Prop:=Wy P E gY m a ∨ (m = 0 /\ sm = 0 /\ ∃ g,AtSem P E gY g /\ a = { g with status:=.blocked })
def swapE (E : Env) : Env:={ E with st:=E.sm,sm:=E.st }
section
variable {P : Program} {E : Env} {ro : Nat -> Ro} {dh : Nat} {V : World} {T : Trace} {gs : Array Goroutine} {w : World} {q : Nat -> Nat} {st sm : Int} {gY : Goroutine}
theorem swapOk (hE : EnvOk E) : EnvOk (swapE E):=by
 obtain ⟨a1,a2,a3,a4⟩:=hE.sm
 exact ⟨hE.kc,⟨a1,a4⟩,hE.st.1,a2.symm,fun h=>a3 h.symm,hE.st.2⟩
theorem shun_st (hE : EnvOk E) : E.shun (.cell E.st):=by
 obtain ⟨_,k,lo,hi,hz,h1,h2⟩:=hE.st
 exact ⟨E.st,k + 1,lo,hi,rfl,hz,h1⟩
theorem shun_sm (hE : EnvOk E) : E.shun (.cell E.sm):=shun_st (swapOk hE)
theorem Wy.status {n : Nat} {g : Goroutine} (h : Wy P E gY n g) : g.status = .running /\ 0 < n:=by
 cases h with
 | plain hr _ _=>exact ⟨hr,by omega⟩
 | said hr _ _=>exact ⟨hr,by omega⟩
 | here h=>exact ⟨h.1,by omega⟩
theorem Las.status {s n d : Nat} {g : Goroutine} (h : Las P E s n d g) : g.status = .running /\ 0 < n:=by
 cases h <;> exact ⟨by assumption,by omega⟩
theorem deaf_mid (T : Trace) (i : Nat) (fn : FuncId) (pos : String) (es : Array Event) (k : Nat) (hk : k <= es.size) : (T ++ MemOp.ofEvents i fn pos es).deaf i (T.size + k) = deafBehind (Deaf T i) (es.extract 0 k):=by
 have e : MemOp.ofEvents i fn pos es = MemOp.ofEvents i fn pos (es.extract 0 k) ++ MemOp.ofEvents i fn pos (es.extract k es.size):=by
   rw [ofEvents_eq,ofEvents_eq,ofEvents_eq,← Array.map_append]
   congr 1
   rw [Array.extract_append_extract]
   simp [Nat.max_eq_right hk]
 have hs : (T ++ MemOp.ofEvents i fn pos (es.extract 0 k)).size = T.size + k:=by
   rw [ofEvents_eq]; simp; omega
 rw [e,← Array.append_assoc,deaf_old (by omega),← hs]
 exact Deaf_own T i fn pos (es.extract 0 k)
theorem unheard {i : Nat} {fn : FuncId} {pos : String} {es : Array Event} (h : ∀ k,k < es.size -> 0 < deafBehind (Deaf T i) (es.extract 0 k)) : ∀ m,T.size <= m -> ¬ (T ++ MemOp.ofEvents i fn pos es).heard m:=by
 rintro m hm ⟨gQ,hgQ,hdz⟩
 have hml : m < (T ++ MemOp.ofEvents i fn pos es).size:=by
   unfold Trace.g? at hgQ
   obtain ⟨z,hz,_⟩:=Option.map_eq_some_iff.1 hgQ
   exact lt_size_of_getElem? hz
 obtain ⟨k,rfl⟩ : ∃ k,m = T.size + k:=⟨m - T.size,by omega⟩
 have hes : (MemOp.ofEvents i fn pos es).size = es.size:=by rw [ofEvents_eq]; simp
 rw [Array.size_append,hes] at hml
 have hgi : gQ = i:=by
   unfold Trace.g? at hgQ
   obtain ⟨z,hz,hzg⟩:=Option.map_eq_some_iff.1 hgQ
   rw [at_new] at hz
   obtain ⟨ev,_,e⟩:=Go.Conc.mem_ofEvents (Array.mem_of_getElem? hz)
   rw [← hzg,e]
 subst hgi
 rw [deaf_mid T gQ fn pos es k (by omega)] at hdz
 have:=h k (by omega)
 omega
theorem Wb.at (C : Wb P E ro dh V T gs w q st sm) (d : Nat) : Wb P E ro dh V T gs (w.at d) q st sm:=⟨C.idle,C.rest,C.above,C.past,C.keep.at d,C.view,C.cst,C.csm,C.mode⟩
theorem Wb.sw (C : Wb P E ro dh V T gs w q st sm) : SW P E w:=⟨C.keep,⟨_,C.csm⟩,_,C.cst⟩
theorem Wb.status (C : Wb P E ro dh V T gs w q st sm) {x : Nat} {y : Goroutine} (hx : 0 < x) (hy : gs[x]? = some y) : y.status = .running ∨ y.status = .finished:=by
 have hi:=C.idle x y hx hy
 cases e : ro x with
 | quit=>rw [e] at hi; exact QuitsD.status hi
 | fin=>rw [e] at hi; exact .inl (Fin.status hi).1
 | las s=>rw [e] at hi; exact .inl (Las.status hi).1
theorem Wb.running (C : Wb P E ro dh V T gs w q st sm) (hsm : sm = 0) : ∃ x y,0 < x /\ gs[x]? = some y /\ y.status = .running:=by
 have hm:=C.mode
 subst hsm
 have pick : ∀ n,0 < sumTo n (fins ro) -> ∃ x,0 < x /\ x < n /\ ro x = .fin:=by
   intro n
   induction n with
   | zero=>intro h; simp [sumTo] at h
   | succ n ih =>
     intro h
     simp only [sumTo] at h
     by_cases h0 : 0 < sumTo n (fins ro)
     . obtain ⟨x,h1,h2,h3⟩:=ih h0
       exact ⟨x,h1,by omega,h3⟩
     . have hf : 0 < fins ro n:=by omega
       unfold fins at hf
       split at hf
       . omega
       . rename_i hn0
         cases e : ro n with
         | fin=>exact ⟨n,by omega,by omega,e⟩
         | quit=>rw [e] at hf; simp at hf
         | las s=>rw [e] at hf; simp at hf
 cases hm with
 | reg h v hv hb =>
   obtain ⟨x,h1,h2,h3⟩:=pick gs.size (by omega)
   refine ⟨x,gs[x],h1,Array.getElem?_eq_getElem h2,?_⟩
   have hi:=C.idle x _ h1 (Array.getElem?_eq_getElem h2)
   rw [h3] at hi
   exact (Fin.status hi).1
 | las k s hk hkn h hs ho =>
   refine ⟨k,gs[k],hk,Array.getElem?_eq_getElem hkn,?_⟩
   have hi:=C.idle k _ hk (Array.getElem?_eq_getElem hkn)
   rw [h] at hi
   exact (Las.status hi).1
theorem arr_after (C : Wb P E ro dh V T gs w q st sm) {i : Nat} {g g' a : Goroutine} {w' : World} (hi : 0 < i) (hg : gs[i]? = some g) (ha : gs[0]? = some a) :
   ((gs.map (woken P g g' w')).setIfInBounds i g')[0]? = some (woken P g g' w' a) /\ ((gs.map (woken P g g' w')).setIfInBounds i g')[i]? = some g' /\ ∀ x,0 < x -> x ≠ i -> ((gs.map (woken P g g' w')).setIfInBounds i g')[x]? = gs[x]?:=by
 have hlt : i < gs.size:=(Array.getElem?_eq_some_iff.1 hg).1
 refine ⟨?_,Array.getElem?_setIfInBounds_self_of_lt (by simpa using hlt),fun x hx hxi=>?_⟩
 . rw [Array.getElem?_setIfInBounds_ne (by omega),Array.getElem?_map,ha]; rfl
 . rw [Array.getElem?_setIfInBounds_ne (fun e=>hxi e.symm),Array.getElem?_map]
   cases e : gs[x]? with
   | none=>rfl
   | some y=>simp [woken_of_again (P:=P) (x:=g) (x':=g') (again_running w' (C.status hx e))]
theorem Wb.put (C : Wb P E ro dh V T gs w q st sm) {i n' : Nat} {g' : Goroutine} {ops : Array MemOp} {gs' : Array Goroutine} {w' : World} {ro' : Nat -> Ro} {st' sm' : Int} (hi0 : 0 < i) (hlt : i < gs.size) (hsz : gs'.size = gs.size) (hother : ∀ x,0 < x -> x ≠ i -> gs'[x]? = gs[x]?) (hself : gs'[i]? = some g')
   (hops : ∀ op ∈ ops,op.g = i) (hro : ∀ x,x ≠ i -> ro' x = ro x) (hidle : IdleB P E (T ++ ops) i n' g' (ro' i))
   (hck : ChanKept w w') (hkeep : KW P E w') (hview : pz E.Z w' = V) (hst : w'.cell? E.st = some (.int .u64 st')) (hsm : w'.cell? E.sm = some (.int .u32 sm')) (hmode : MB gs.size ro' st' sm')
   (hpast : PastR (fun _=>False) E.shun (fun g=>g = 0) (fun _=>False) w'.heap.size 0 dh (T ++ ops)) : Wb P E ro' dh V (T ++ ops) gs' w' (upd q i n') st' sm':=by
 refine ⟨fun x y hx hy=>?_,fun c lo hi hz=>?_,fun j hj=>?_,hpast,hkeep,hview,hst,hsm,by rw [hsz]; exact hmode⟩
 . by_cases e : x = i
   . subst e
     rw [hself] at hy
     obtain rfl:=Option.some.inj hy
     rw [upd_same]; exact hidle
   . rw [hother x hx e] at hy
     rw [upd_ne q n' e,hro x e]
     have hid:=C.idle x y hx hy
     have hD : Deaf (T ++ ops) x = Deaf T x:=Deaf_other T (fun z=>e z.symm) ops hops
     cases es : ro x with
     | quit=>rw [es] at hid; show QuitsD _ _ _ _; rw [hD]; exact hid
     | fin=>rw [es] at hid; show Fin _ _ _ _ _ _; rw [hD]; exact hid
     | las s=>rw [es] at hid; show Las _ _ _ _ _ _; rw [hD]; exact hid
 . obtain ⟨k,hk⟩:=C.rest c lo hi hz
   exact ⟨k,hck.chan _ _ _ _ _ _ _ hk⟩
 . rw [hsz] at hj
   rw [Deaf_other T (g':=i) (by omega) ops hops]
   exact C.above j hj
theorem fins_upd {i : Nat} (hpos : 0 < i) (x : Ro) (hx : x ≠ .fin) : fins (upd ro i x) = upd (fins ro) i 0:=by
 funext y
 by_cases e : y = i
 . subst e
   have : y ≠ 0:=by omega
   cases x <;> first | exact absurd rfl hx | simp [fins,upd,this]
 . simp [fins,upd,e]
theorem fins_one {i : Nat} (hpos : 0 < i) (h : ro i = .fin) : fins ro i = 1:=by
 have : i ≠ 0:=by omega
 simp [fins,this,h]
end
end Go.Proofs.Ytibcdikfbhmheaa
