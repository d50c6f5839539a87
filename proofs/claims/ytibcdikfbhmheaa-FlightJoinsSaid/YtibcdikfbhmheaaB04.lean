import Derived.Test.YtibcdikfbhmheaaB03
import Derived.Conc.Token
set_option linter.unusedSimpArgs false
set_option linter.unusedVariables false
namespace Go.Proofs.Ytibcdikfbhmheaa
open Go Go.Conc
inductive Will (P : Program) (main : Bool) (Z : Cuts) (Stop : Goroutine -> World -> Prop) : Goroutine -> World -> Prop
 | stop {g : Goroutine} {V : World} (h : Stop g V) : Will P main Z Stop g V
 | step {g : Goroutine} {V : World} (hr : g.status = .running)
     (h : ∀ w,pz Z w = V -> Fit P Z w -> ∃ g' w' es,stepG P main g w = .go g' w' es /\ Hidden Z w w' /\ Fit P Z w' /\ ∀ e ∈ es,EvZ Z w'.heap.size e)
     (h' : ∀ w g' w' es,pz Z w = V -> Fit P Z w -> stepG P main g w = .go g' w' es -> Will P main Z Stop g' (pz Z w')) : Will P main Z Stop g V
section
variable {P : Program} {L : List FuncId} {Z : Cuts} {main : Bool} {Stop : Goroutine -> World -> Prop}
theorem Will.mono {Stop' : Goroutine -> World -> Prop} {g : Goroutine} {V : World} (h : Will P main Z Stop g V) (hs : ∀ g V,Stop g V -> Will P main Z Stop' g V) : Will P main Z Stop' g V:=by
 induction h with
 | stop h=>exact hs _ _ h
 | step hr h h' ih=>exact .step hr h ih
theorem lv_pz {w : World} (hf : Fit P Z w) : LV P (pz Z w):=by
 have hb : ∀ (b : Nat) (a : Addr) (u : TypeId),(pz Z w).heap[b]? = some (Obj.view a u) -> u = tBad:=fun b a u hv=>by
   simp only [pz,Array.getElem?_mapIdx] at hv
   obtain ⟨o,ho,e⟩:=Option.map_eq_some_iff.1 hv
   cases hz : Z b with
   | none =>
     rw [hz] at e
     cases o <;> simp [pobj] at e
     exact e.2.symm
   | some s =>
     rw [hz] at e
     obtain ⟨k,lo,hi⟩:=s
     cases o <;> simp [pobj] at e
 refine ⟨rfl,hb,⟨fun _ _ h=>(by cases h),fun _ _ _ _ h=>(by cases h),fun _ _ _ h=>(by cases h),fun b hbg=>?_,hf.bad⟩⟩
 obtain ⟨c,e,f,h⟩:=hf.glob b hbg
 have hz : Z b = none:=by
   cases hZ : Z b with
   | none=>rfl
   | some s=>have:=(hf.cut b s hZ).1; omega
 exact ⟨c,e,f,by simp only [pz,Array.getElem?_mapIdx,h,hz]; rfl⟩
def glue (ρ : Tp) (d : Nat) (w : World) : Tp:=fun p=>if p < d then ρ p else w.tape (p - d + w.drawn)
theorem glue_upto (ρ : Tp) (d : Nat) (w : World) : Upto d ρ (glue ρ d w):=fun p hp q=>by simp [glue,hp]
theorem glue_ag {ρ : Tp} {d : Nat} {w V W' : World} : Ag w (re V (glue ρ d w) d) W':=fun j hj q=>by
 have : ¬ (d + j < d):=by omega
 simp only [re,glue,this,if_false]
 rw [show d + j - d + w.drawn = w.drawn + j by omega]
theorem will_of_wl (hP : Calm P L) {R : Value -> World -> Prop} {fr : Frame} {us : List Frame} {V : World} {d : Nat} {ρ : Tp} (h : WL P L R fr us V d ρ) {c : Frame} {cs : List Frame} (K : ∀ v V',R v V' -> Will P main Z Stop (G (c.finish v) cs) V') :
   Will P main Z Stop (G fr (us ++ c :: cs)) V:=by
 induction h with
 | @ret fr V d ρ ok hm h =>
   have key : ∀ w,pz Z w = V -> Fit P Z w -> ∃ v w' es,stepG P main (G fr ([] ++ c :: cs)) w = .go (G (c.finish v) cs) w' es /\ Hidden Z w w' /\ Fit P Z w' /\ (∀ e ∈ es,EvZ Z w'.heap.size e) /\ R v (pz Z w'):=fun w hV hf=>by
     subst hV
     obtain ⟨v,W',es,e,hR⟩:=h _ (glue_upto ρ d w)
     rcases ret_sim (W:=re (pz Z w) (glue ρ d w) d) rfl hf ok.ok hm with ⟨v',W2,esW,hd,ht,h1,h2⟩ | h'
     . have e2:=h1 true (frC P) []
       rw [e] at e2
       injection e2 with e3 e4 e5
       subst e4
       have ev : v = v':=by
         have:=congrArg (fun g=>g.frame.todo) e3
         simpa [G,frC,Frame.finish] using this
       subst ev
       obtain ⟨w',es',e',o,q⟩:=h2 glue_ag
       exact ⟨v,w',es',e' _ _ _,o.hid,o.fit,q,by rw [← o.rl]; exact hR⟩
     . obtain ⟨o,W2,es2,e2⟩:=h' true (frC P) []
       rw [e] at e2
       cases e2
   refine .step rfl (fun w hV hf=>?_) fun w g' w' es hV hf hst=>?_
   . obtain ⟨v,w',es,e,a1,a2,a3,_⟩:=key w hV hf
     exact ⟨_,w',es,e,a1,a2,a3⟩
   . obtain ⟨v,w2,es2,e,a1,a2,a3,hR⟩:=key w hV hf
     rw [e] at hst
     injection hst with e1 e2 e3
     subst e1 e2
     exact K v _ hR
 | @step fr us V d ρ ok hm h h' ih =>
   have hm' : fr.mode = .run ∨ fr.mode = .returning /\ us ≠ []:=by
     rcases ok.mode with h | h
     . exact .inl h
     . rcases hm with h' | h'
       . exact .inl h'
       . exact .inr ⟨h,h'⟩
   have key : ∀ w,pz Z w = V -> Fit P Z w -> ∃ g' w' es,stepG P main (G fr (us ++ c :: cs)) w = .go g' w' es /\ Hidden Z w w' /\ Fit P Z w' /\ (∀ e ∈ es,EvZ Z w'.heap.size e) /\ Will P main Z Stop g' (pz Z w'):=fun w hV hf=>by
     subst hV
     obtain ⟨fr',us',W',es,e⟩:=h _ (glue_upto ρ d w)
     have hw:=h' _ _ _ _ _ (glue_upto ρ d w) e
     have hi:=ih _ _ _ _ _ (glue_upto ρ d w) e
     have hsim:=step_sim (main:=main) (main0:=true) (cs:=c :: cs) (cs0:=[frC P]) (W:=re (pz Z w) (glue ρ d w) d) hP rfl hf ok.ok hm' ok.us
     rw [e] at hsim
     obtain ⟨_,_,⟨fr2,us2,e2,_,_,_,hgo⟩ | ⟨fr2,us2,chain,e2,hm2,_⟩⟩:=hsim
     . have e3 : fr' = fr2 /\ us' ++ [frC P] = us2 ++ [frC P]:=by injection e2 with a1 a2; exact ⟨a1,a2⟩
       obtain ⟨rfl,e4⟩:=e3
       obtain rfl:=List.append_cancel_right e4
       obtain ⟨w',es',e',o,q⟩:=hgo glue_ag
       exact ⟨_,w',es',e',o.hid,o.fit,q,by rw [← o.rl]; exact hi⟩
     . exfalso
       have e3 : fr' = fr2:=by injection e2
       have ok' : OkS P L fr' us':=by cases hw <;> assumption
       rw [← e3] at hm2
       rcases ok'.mode with h | h <;> rw [h] at hm2 <;> cases hm2
   refine .step rfl (fun w hV hf=>?_) fun w g' w' es hV hf hst=>?_
   . obtain ⟨g',w',es,e,a1,a2,a3,_⟩:=key w hV hf
     exact ⟨g',w',es,e,a1,a2,a3⟩
   . obtain ⟨g2,w2,es2,e,a1,a2,a3,hW⟩:=key w hV hf
     rw [e] at hst
     injection hst with e1 e2 e3
     subst e1 e2
     exact hW
theorem will_of_wc (hP : Calm P L) {b : Frame} (hb : b.kind = .normal) (hbf : ∃ fn,P.funcs[b.fn]? = some fn) {R : Act -> World -> Prop} {p : Pos} {V : World} {d : Nat} {ρ : Tp} (h : WC P L b R p V d ρ) {k : List Item} {cs : List Frame}
   (K : ∀ a V',R a V' -> a.defers = [] -> Will P main Z Stop (G (b.at a k) cs) V') : Will P main Z Stop (p.g b k cs) V:=by
 induction h with
 | @stop a V d ρ h ha=>exact K a V h ha
 | @step p V d ρ ok he h h' ih =>
   have key : ∀ w,pz Z w = V -> Fit P Z w -> ∃ g' w' es,stepG P main (p.g b k cs) w = .go g' w' es /\ Hidden Z w w' /\ Fit P Z w' /\ (∀ e ∈ es,EvZ Z w'.heap.size e) /\ Will P main Z Stop g' (pz Z w'):=fun w hV hf=>by
     subst hV
     obtain ⟨p1,W',es,ok1,e⟩:=h _ (glue_upto ρ d w)
     have hsim:=chk_sim (main:=main) (main0:=true) (cs:=cs) (cs0:=[frC P]) (k:=k) (k0:=psn) (W:=re (pz Z w) (glue ρ d w) d) hP hb hbf rfl hf ok he
     rw [e] at hsim
     obtain ⟨_,_,⟨p',e2,ok',hgo⟩ | ⟨fr2,us2,chain,e2,_,hm2,_⟩⟩:=hsim
     . obtain ⟨w',es',e',o,q⟩:=hgo glue_ag
       exact ⟨_,w',es',e',o.hid,o.fit,q,by rw [← o.rl]; exact ih _ p' _ _ (glue_upto ρ d w) ok' (by rw [e,e2])⟩
     . exfalso
       have e3 : (Pos.g b psn [frC P] p1).frame = fr2:=by rw [e2]; rfl
       have hr : fr2.mode = .run ∨ fr2.mode = .returning:=by
         rw [← e3]
         cases p1 with
         | base a t=>exact .inl rfl
         | call fr us a t=>exact ok1.1.mode
       rcases hr with h | h <;> rw [h] at hm2 <;> cases hm2
   have hrun : (p.g b k cs).status = .running:=by cases p <;> rfl
   refine .step hrun (fun w hV hf=>?_) fun w g' w' es hV hf hst=>?_
   . obtain ⟨g',w',es,e,a1,a2,a3,_⟩:=key w hV hf
     exact ⟨g',w',es,e,a1,a2,a3⟩
   . obtain ⟨g2,w2,es2,e,a1,a2,a3,hW⟩:=key w hV hf
     rw [e] at hst
     injection hst with e1 e2 e3
     subst e1 e2
     exact hW
theorem Will.dead {g : Goroutine} {V : World} (hr : g.status = .running) (h : ∀ w,pz Z w = V -> ¬ Fit P Z w) : Will P main Z Stop g V :=
 .step hr (fun w hV hf=>absurd hf (h w hV)) fun w _ _ _ hV hf _=>absurd hf (h w hV)
theorem Will.fit {g : Goroutine} {V : World} (hr : g.status = .running) (h : LV P V -> Will P main Z Stop g V) : Will P main Z Stop g V:=by
 by_cases hx : ∃ w,pz Z w = V /\ Fit P Z w
 . obtain ⟨w,rfl,hf⟩:=hx
   exact h (lv_pz hf)
 . exact Will.dead hr fun w hV hf=>hx ⟨w,hV,hf⟩
theorem will_call (hP : Calm P L) {f : FuncId} {args : Array Value} {V : World} {R : Value -> World -> Prop} (hf : f ∈ L) (hC : ∀ τ,Calls P f args (re V τ 0) fun e w'=>match e with | .returned v=>R v (norm w') | _=>False) {c : Frame} {cs : List Frame}
   (K : ∀ v V',R v V' -> Will P main Z Stop (G (c.finish v) cs) V') : Will P main Z Stop (G (Frame.enter P f args .normal) (c :: cs)) V:=by
 refine Will.fit rfl fun lv=>?_
 obtain ⟨h1,h2⟩:=FrOk.enter hP hf args
 refine will_of_wl (us:=[]) hP (wl_of_well (d:=0) (ρ:=fun _ _=>0) hP ⟨h1,.inl h2,by simp⟩ lv fun τ _=>?_) K
 obtain ⟨e,w',fr,hR,hc,_,hl⟩:=hC τ [frC P]
 cases e with
 | returned v =>
   obtain ⟨n,hn⟩:=hc.trans (Steps.one (step_leave_returned hl))
   exact ⟨n,v,w',hn,hR⟩
 | _=>exact hR.elim
theorem will_code (hP : Calm P L) {b : Frame} (hb : b.kind = .normal) (hbf : ∃ fn,P.funcs[b.fn]? = some fn) {c : Code} {a : Act} {V : World} {R : Act -> World -> Prop} (ha : a.defers = []) (hs : shut P L [] c = true)
   (hC : ∀ τ,c.wp P (fun e a' w'=>match e with | .normal=>R a' (norm w') /\ a'.defers = [] | _=>False) a (re V τ 0)) {k : List Item} {cs : List Frame}
   (K : ∀ a V',R a V' -> a.defers = [] -> Will P main Z Stop (G (b.at a k) cs) V') : Will P main Z Stop (G (b.at a (.code c :: k)) cs) V:=by
 refine Will.fit rfl fun lv=>?_
 refine will_of_wc (p:=.base a [.code c]) hP hb hbf (wc_of_well (d:=0) (ρ:=fun _ _=>0) hP hb hbf ⟨ha,by simp [shutI,blks,hs]⟩ lv fun τ _=>?_) K
 obtain ⟨e,a',w',hR,hc⟩:=hC τ b psn [frC P]
 cases e with
 | normal =>
   obtain ⟨n,hn⟩:=hc
   exact ⟨n,a',w',hn,hR⟩
 | _=>exact hR.elim
end
structure PastR (Still Shun : Loc -> Prop) (Mem Loose : Nat -> Prop) (B h dh : Nat) (t : Trace) : Prop where
 clean : ∀ said,¬ Race said t
 known : ∀ i a,touchAt t i = some a -> a.loc.isMemory = true -> Knows t h i ∨ (a.write = false /\ Still a.loc /\ ∃ g,t.g? i = some g /\ Loose g) ∨ (Shun a.loc /\ a.kind = .atomic /\ ¬ t.heard i)
 shun : ∀ i a,touchAt t i = some a -> Shun a.loc -> a.kind ≠ .plain
 wrote : ∀ i a,touchAt t i = some a -> a.write = true -> Still a.loc -> ∀ g,Mem g -> Knows t g i
 hears : ∀ g,Mem g -> g ≠ h -> Deaf t g = 0
 deafh : Deaf t h = dh
 seen : ∀ op ∈ t,op.act.low B
section
variable {Still Shun : Loc -> Prop} {Mem Loose : Nat -> Prop} {B h dh : Nat} {t u : Trace}
theorem PastR.mono {B' : Nat} (H : PastR Still Shun Mem Loose B h dh t) (hB : B <= B') : PastR Still Shun Mem Loose B' h dh t:=⟨H.clean,H.known,H.shun,H.wrote,H.hears,H.deafh,fun op hop=>MemAct.low_mono hB (H.seen op hop)⟩
theorem PastR.fewer {Mem' : Nat -> Prop} (H : PastR Still Shun Mem Loose B h dh t) (hM : ∀ g,Mem' g -> Mem g) : PastR Still Shun Mem' Loose B h dh t:=⟨H.clean,H.known,H.shun,fun i a ha hw hS g hg=>H.wrote i a ha hw hS g (hM g hg),fun g hg=>H.hears g (hM g hg),H.deafh,H.seen⟩
theorem PastR.loosen {Loose' : Nat -> Prop} (H : PastR Still Shun Mem Loose B h dh t) (hL : ∀ g,Loose g -> Loose' g) : PastR Still Shun Mem Loose' B h dh t :=
 ⟨H.clean,fun i a ha hm=>(H.known i a ha hm).imp id (.imp (fun ⟨x,y,g,hg,hl⟩=>⟨x,y,g,hg,hL g hl⟩) id),H.shun,H.wrote,H.hears,H.deafh,H.seen⟩
theorem old_third {i : Nat} {a : Touch} {x : MemOp} (hx' : t[i]? = some x) (h : Shun a.loc /\ a.kind = .atomic /\ ¬ t.heard i) : Shun a.loc /\ a.kind = .atomic /\ ¬ (t ++ u).heard i :=
 ⟨h.1,h.2.1,by rw [heard_old (lt_size_of_getElem? hx')]; exact h.2.2⟩
theorem PastR.old (H : PastR Still Shun Mem Loose B h dh t) {i : Nat} {a : Touch} {x : MemOp} (hx' : t[i]? = some x) (hxa : x.act.touch? = some a) (hm : a.loc.isMemory = true) :
   Knows (t ++ u) h i ∨ (a.write = false /\ Still a.loc /\ ∃ g,(t ++ u).g? i = some g /\ Loose g) ∨ (Shun a.loc /\ a.kind = .atomic /\ ¬ (t ++ u).heard i) :=
 (H.known i a (by rw [touchAt_of hx']; exact hxa) hm).imp (Knows.app u) (.imp (fun ⟨p,q,g,hg,hl⟩=>⟨p,q,g,by rw [g?_old (lt_size_of_getElem? hx')]; exact hg,hl⟩) (old_third hx'))
theorem PastR.appMute {g d' : Nat} (H : PastR Still Shun Mem Loose B h dh t) (hu : ∀ op ∈ u,op.g = g) (hn : ∀ op ∈ u,op.act.touch? = none) (hd : Mem g -> g ≠ h -> Deaf (t ++ u) g = Deaf t g) (hdh : Deaf (t ++ u) h = d') (hl : ∀ op ∈ u,op.act.low B) : PastR Still Shun Mem Loose B h d' (t ++ u):=by
 refine ⟨fun said=>noRace_appendMute (H.clean said) hn,fun i a ha hm=>?_,fun i a ha hS=>?_,fun i a ha hw hS g' hg'=>?_,fun g' hM hne=>?_,hdh,seen_app H.seen hl⟩
 . obtain ⟨x,hx,hxa⟩:=touch_of ha
   rcases getElem?_append_cases hx with ⟨_,hx'⟩ | ⟨_,hxu⟩
   . exact H.old hx' hxa hm
   . rw [hn x hxu] at hxa; cases hxa
 . obtain ⟨x,hx,hxa⟩:=touch_of ha
   rcases getElem?_append_cases hx with ⟨_,hx'⟩ | ⟨_,hxu⟩
   . exact H.shun i a (by rw [touchAt_of hx']; exact hxa) hS
   . rw [hn x hxu] at hxa; cases hxa
 . obtain ⟨x,hx,hxa⟩:=touch_of ha
   rcases getElem?_append_cases hx with ⟨_,hx'⟩ | ⟨_,hxu⟩
   . exact (H.wrote i a (by rw [touchAt_of hx']; exact hxa) hw hS g' hg').app u
   . rw [hn x hxu] at hxa; cases hxa
 . by_cases e : g' = g
   . subst e; exact (hd hM hne).trans (H.hears g' hM hne)
   . exact (Deaf_other t (fun x=>e x.symm) u hu).trans (H.hears g' hM hne)
theorem PastR.appRead {g : Nat} (H : PastR Still Shun Mem Loose B h dh t) (hds : ∀ l,Still l -> ¬ Shun l) (hg : Mem g) (hgh : g ≠ h) (hL : Loose g) (hu : ∀ op ∈ u,op.g = g) (hr : ∀ op ∈ u,∀ b,op.act.touch? = some b -> b.write = false /\ Still b.loc) (hd : Deaf (t ++ u) g = Deaf t g)
   (hl : ∀ op ∈ u,op.act.low B) : PastR Still Shun Mem Loose B h dh (t ++ u):=by
 refine ⟨fun said=>noRace_append (H.clean said) hu fun i a ha op hop b hb hc=>?_,fun i a ha hm=>?_,fun i a ha hS=>?_,fun i a ha hw hS g' hg'=>?_,fun g' hM hne=>?_,(Deaf_other t hgh u hu).trans H.deafh,seen_app H.seen hl⟩
 . obtain ⟨hb0,hbS⟩:=hr op hop b hb
   rcases hc.2.2.1 with x | x
   . exact H.wrote i a ha x (hc.1 ▸ hbS) g hg
   . rw [hb0] at x; cases x
 . obtain ⟨x,hx,hxa⟩:=touch_of ha
   rcases getElem?_append_cases hx with ⟨_,hx'⟩ | ⟨_,hxu⟩
   . exact H.old hx' hxa hm
   . exact .inr (.inl ⟨(hr x hxu a hxa).1,(hr x hxu a hxa).2,g,by rw [g?_of hx,hu x hxu],hL⟩)
 . obtain ⟨x,hx,hxa⟩:=touch_of ha
   rcases getElem?_append_cases hx with ⟨_,hx'⟩ | ⟨_,hxu⟩
   . exact H.shun i a (by rw [touchAt_of hx']; exact hxa) hS
   . exact absurd hS (hds _ (hr x hxu a hxa).2)
 . obtain ⟨x,hx,hxa⟩:=touch_of ha
   rcases getElem?_append_cases hx with ⟨_,hx'⟩ | ⟨_,hxu⟩
   . exact (H.wrote i a (by rw [touchAt_of hx']; exact hxa) hw hS g' hg').app u
   . rw [(hr x hxu a hxa).1] at hw; cases hw
 . by_cases e : g' = g
   . subst e; exact hd.trans (H.hears g' hM hne)
   . exact (Deaf_other t (fun x=>e x.symm) u hu).trans (H.hears g' hM hne)
theorem PastR.appH {d' : Nat} (H : PastR Still Shun Mem Loose B h dh t) (hu : ∀ op ∈ u,op.g = h) (hs : ∀ op ∈ u,∀ b,op.act.touch? = some b -> (Still b.loc -> b.write = false) /\ (Shun b.loc -> b.kind ≠ .plain)) (hd : Deaf (t ++ u) h = d') (hl : ∀ op ∈ u,op.act.low B) :
   PastR Still Shun Mem Loose B h d' (t ++ u):=by
 refine ⟨fun said=>noRace_append (H.clean said) hu fun i a ha op hop b hb hc=>?_,fun i a ha hm=>?_,fun i a ha hS=>?_,fun i a ha hw hS g hg=>?_,fun g' hM hne=>(Deaf_other t (fun x=>hne x.symm) u hu).trans (H.hears g' hM hne),hd,seen_app H.seen hl⟩
 . rcases H.known i a ha hc.2.1 with hk | ⟨hw,hS,_⟩ | ⟨hS,hk,_⟩
   . exact hk
   . have hb0:=(hs op hop b hb).1 (hc.1 ▸ hS)
     rcases hc.2.2.1 with x | x
     . rw [hw] at x; cases x
     . rw [hb0] at x; cases x
   . have hkb:=(hs op hop b hb).2 (hc.1 ▸ hS)
     obtain ⟨_,_,_,hcase⟩:=hc
     rw [hk] at hcase
     rcases hcase with x | x | ⟨_,x,_⟩
     . cases x
     . exact absurd x hkb
     . cases x
 . obtain ⟨x,hx,hxa⟩:=touch_of ha
   rcases getElem?_append_cases hx with ⟨_,hx'⟩ | ⟨_,hxu⟩
   . exact H.old hx' hxa hm
   . have:=knows_own hx
     rw [hu x hxu] at this
     exact .inl this
 . obtain ⟨x,hx,hxa⟩:=touch_of ha
   rcases getElem?_append_cases hx with ⟨_,hx'⟩ | ⟨_,hxu⟩
   . exact H.shun i a (by rw [touchAt_of hx']; exact hxa) hS
   . exact (hs x hxu a hxa).2 hS
 . obtain ⟨x,hx,hxa⟩:=touch_of ha
   rcases getElem?_append_cases hx with ⟨_,hx'⟩ | ⟨_,hxu⟩
   . exact (H.wrote i a (by rw [touchAt_of hx']; exact hxa) hw hS g hg).app u
   . rw [(hs x hxu a hxa).1 hS] at hw; cases hw
theorem PastR.appAtomic {g : Nat} (H : PastR Still Shun Mem Loose B h dh t) (hds : ∀ l,Still l -> ¬ Shun l) (hM : ¬ Mem g) (hgh : g ≠ h) (hu : ∀ op ∈ u,op.g = g) (hs : ∀ op ∈ u,∀ b,op.act.touch? = some b -> Shun b.loc /\ b.kind = .atomic) (hh : ∀ i,t.size <= i -> ¬ (t ++ u).heard i)
   (hl : ∀ op ∈ u,op.act.low B) : PastR Still Shun Mem Loose B h dh (t ++ u):=by
 refine ⟨fun said=>noRace_append (H.clean said) hu fun i a ha op hop b hb hc=>?_,fun i a ha hm=>?_,fun i a ha hS=>?_,fun i a ha hw hS g' hg'=>?_,fun g' hM' hne=>(Deaf_other t (fun x=>hM (by rw [x]; exact hM')) u hu).trans (H.hears g' hM' hne),(Deaf_other t hgh u hu).trans H.deafh,seen_app H.seen hl⟩
 . exfalso
   obtain ⟨hS,hk⟩:=hs op hop b hb
   have hka:=H.shun i a ha (hc.1 ▸ hS)
   obtain ⟨_,_,_,hcase⟩:=hc
   rw [hk] at hcase
   rcases hcase with x | x | ⟨_,_,x⟩
   . exact hka x
   . cases x
   . cases x
 . obtain ⟨x,hx,hxa⟩:=touch_of ha
   rcases getElem?_append_cases hx with ⟨_,hx'⟩ | ⟨hi,hxu⟩
   . exact H.old hx' hxa hm
   . exact .inr (.inr ⟨(hs x hxu a hxa).1,(hs x hxu a hxa).2,hh i hi⟩)
 . obtain ⟨x,hx,hxa⟩:=touch_of ha
   rcases getElem?_append_cases hx with ⟨_,hx'⟩ | ⟨_,hxu⟩
   . exact H.shun i a (by rw [touchAt_of hx']; exact hxa) hS
   . rw [(hs x hxu a hxa).2]; simp
 . obtain ⟨x,hx,hxa⟩:=touch_of ha
   rcases getElem?_append_cases hx with ⟨_,hx'⟩ | ⟨_,hxu⟩
   . exact (H.wrote i a (by rw [touchAt_of hx']; exact hxa) hw hS g' hg').app u
   . exact absurd (hs x hxu a hxa).1 (hds _ hS)
variable {j : Nat}
theorem PastR.give (H : PastR Still Shun Mem Loose B h 0 t) (hj : Mem j) (hjh : j ≠ h) (fh : FuncId) (ph : String) (fj : FuncId) (pj : String) {c : Nat} (k cap : Nat) (hc : c < B) :
   PastR Still Shun Mem (fun g=>Loose g /\ g ≠ j) B j 0 (t ++ met h j fh ph fj pj c k cap):=by
 have hn:=met_mute h j fh ph fj pj c k cap
 have hq:=fun g=>met_quiet h j fh ph fj pj c k cap g
 have e0 : (t ++ met h j fh ph fj pj c k cap)[t.size]? = some { g:=h,fn:=fh,pos:=ph,act:=.send c k }:=by simp [met]
 have e3 : (t ++ met h j fh ph fj pj c k cap)[t.size + 3]? = some { g:=j,fn:=fj,pos:=pj,act:=.recvDone c k }:=by simp [met]
 have edge : HappensBefore (t ++ met h j fh ph fj pj c k cap) t.size (t.size + 3) :=
   Relation.TransGen.single (.inr ⟨.handOver (act?_of e0) (act?_of e3),⟨h,g?_of e0,by rw [deaf_old (Nat.le_refl _)]; exact H.deafh⟩,⟨j,g?_of e3,by rw [deaf_quiet (hq j) 3 (by simp [met])]; exact H.hears j hj hjh⟩⟩)
 refine ⟨fun said=>noRace_appendMute (H.clean said) hn,fun i a ha hm=>?_,fun i a ha hS=>?_,fun i a ha hw hS g hg=>?_,fun g hg hne=>(Deaf_quiet (hq g)).trans (by
     by_cases e : g = h
     . subst e; exact H.deafh
     . exact H.hears g hg e),(Deaf_quiet (hq j)).trans (H.hears j hj hjh),seen_app H.seen fun op hop=>?_⟩
 . obtain ⟨x,hx,hxa⟩:=touch_of ha
   rcases getElem?_append_cases hx with ⟨hi,hx'⟩ | ⟨_,hxu⟩
   . rcases H.known i a (by rw [touchAt_of hx']; exact hxa) hm with hk | ⟨p,q,g,hg,hl⟩ | h3
     . exact .inl ⟨t.size + 3,_,e3,rfl,.inr ((hk.hb_new (Nat.le_refl _) e0 rfl).trans edge)⟩
     . by_cases e : g = j
       . subst e
         have:=knows_own hx
         rw [show x.g = g from by have:=g?_of hx'; rw [hg] at this; exact (Option.some.inj this).symm] at this
         exact .inl this
       . exact .inr (.inl ⟨p,q,g,by rw [g?_old hi]; exact hg,hl,e⟩)
     . exact .inr (.inr (old_third hx' h3))
   . rw [hn x hxu] at hxa; cases hxa
 . obtain ⟨x,hx,hxa⟩:=touch_of ha
   rcases getElem?_append_cases hx with ⟨_,hx'⟩ | ⟨_,hxu⟩
   . exact H.shun i a (by rw [touchAt_of hx']; exact hxa) hS
   . rw [hn x hxu] at hxa; cases hxa
 . obtain ⟨x,hx,hxa⟩:=touch_of ha
   rcases getElem?_append_cases hx with ⟨_,hx'⟩ | ⟨_,hxu⟩
   . exact (H.wrote i a (by rw [touchAt_of hx']; exact hxa) hw hS g hg).app _
   . rw [hn x hxu] at hxa; cases hxa
 . simp only [met,List.mem_toArray,List.mem_cons,List.not_mem_nil,or_false] at hop
   rcases hop with rfl | rfl | rfl | rfl <;> exact hc
theorem PastR.hireGive {c : Nat} (H : PastR Still Shun Mem Loose B h 0 t) (hh : Mem h) (hc0 : Deaf t c = 0) (hch : c ≠ h) (hcM : ¬ Mem c) (fh : FuncId) (ph : String) (fc : FuncId) :
   PastR Still Shun (fun g=>Mem g ∨ g = c) Loose B c 0 (t ++ #[{ g:=h,fn:=fh,pos:=ph,act:=.go c },{ g:=c,fn:=fc,pos:=ph,act:=.start }]):=by
 generalize hu : (#[{ g:=h,fn:=fh,pos:=ph,act:=.go c },{ g:=c,fn:=fc,pos:=ph,act:=.start }] : Trace) = u
 have hn : ∀ op ∈ u,op.act.touch? = none:=by
   intro op hop
   subst hu
   simp only [List.mem_toArray,List.mem_cons,List.not_mem_nil,or_false] at hop
   rcases hop with rfl | rfl <;> rfl
 have hq : ∀ g,∀ op ∈ u,∀ d,deafStep g d op = d:=by
   intro g op hop d
   subst hu
   simp only [List.mem_toArray,List.mem_cons,List.not_mem_nil,or_false] at hop
   rcases hop with rfl | rfl <;> rfl
 have e0 : (t ++ u)[t.size]? = some { g:=h,fn:=fh,pos:=ph,act:=.go c }:=by subst hu; simp
 have e1 : (t ++ u)[t.size + 1]? = some { g:=c,fn:=fc,pos:=ph,act:=.start }:=by subst hu; simp
 have edge : HappensBefore (t ++ u) t.size (t.size + 1) :=
   Relation.TransGen.single (.inr ⟨.spawn (act?_of e0) (act?_of e1) (g?_of e1),⟨h,g?_of e0,by rw [deaf_old (Nat.le_refl _)]; exact H.deafh⟩,⟨c,g?_of e1,by rw [deaf_quiet (hq c) 1 (by subst hu; simp)]; exact hc0⟩⟩)
 have toC : ∀ {i : Nat},Knows t h i -> Knows (t ++ u) c i:=fun hk=>⟨t.size + 1,_,e1,rfl,.inr ((hk.hb_new (Nat.le_refl _) e0 rfl).trans edge)⟩
 refine ⟨fun said=>noRace_appendMute (H.clean said) hn,fun i a ha hm=>?_,fun i a ha hS=>?_,fun i a ha hw hS g hg=>?_,fun g hg hne=>(Deaf_quiet (hq g)).trans (by
     rcases hg with hg | hg
     . by_cases e : g = h
       . subst e; exact H.deafh
       . exact H.hears g hg e
     . exact absurd hg hne),(Deaf_quiet (hq c)).trans hc0,seen_app H.seen fun op hop=>?_⟩
 . obtain ⟨x,hx,hxa⟩:=touch_of ha
   rcases getElem?_append_cases hx with ⟨hi,hx'⟩ | ⟨_,hxu⟩
   . rcases H.known i a (by rw [touchAt_of hx']; exact hxa) hm with hk | ⟨p,q,g,hg,hl⟩ | h3
     . exact .inl (toC hk)
     . exact .inr (.inl ⟨p,q,g,by rw [g?_old hi]; exact hg,hl⟩)
     . exact .inr (.inr (old_third hx' h3))
   . rw [hn x hxu] at hxa; cases hxa
 . obtain ⟨x,hx,hxa⟩:=touch_of ha
   rcases getElem?_append_cases hx with ⟨_,hx'⟩ | ⟨_,hxu⟩
   . exact H.shun i a (by rw [touchAt_of hx']; exact hxa) hS
   . rw [hn x hxu] at hxa; cases hxa
 . obtain ⟨x,hx,hxa⟩:=touch_of ha
   rcases getElem?_append_cases hx with ⟨_,hx'⟩ | ⟨_,hxu⟩
   . have hold:=H.wrote i a (by rw [touchAt_of hx']; exact hxa) hw hS
     rcases hg with hg | rfl
     . exact (hold g hg).app u
     . exact toC (hold h hh)
   . rw [hn x hxu] at hxa; cases hxa
 . subst hu
   simp only [List.mem_toArray,List.mem_cons,List.not_mem_nil,or_false] at hop
   rcases hop with rfl | rfl <;> trivial
end
open Go.ConcN (sumTo upd sumTo_upd upd_ne upd_same)
structure Env where
 Z : Cuts
 Kc : Addr -> Option Value
 st : Addr
 sm : Addr
structure EnvOk (E : Env) : Prop where
 kc : ∀ a v,E.Kc a = some v -> a.spot = none /\ ∃ k lo hi,E.Z a.block = some (k,lo,hi) /\ lo <= a.off /\ a.off < hi /\ a.off < k
 st : E.st.spot = none /\ ∃ k lo hi,E.Z E.st.block = some (k + 1,lo,hi) /\ k + 1 <= E.st.off /\ hi <= E.st.off
 sm : E.sm.spot = none /\ E.sm.block = E.st.block /\ E.sm.off ≠ E.st.off /\ ∃ k lo hi,E.Z E.sm.block = some (k + 1,lo,hi) /\ k + 1 <= E.sm.off /\ hi <= E.sm.off
def Env.still (E : Env) (l : Loc) : Prop:=∃ a,l = .cell a /\ (E.Kc a).isSome = true
def Env.shun (E : Env) (l : Loc) : Prop:=∃ a k lo hi,l = .cell a /\ E.Z a.block = some (k,lo,hi) /\ k <= a.off
def KW (P : Program) (E : Env) (w : World) : Prop:=Fit P E.Z w /\ ∀ a v,E.Kc a = some v -> w.cell? a = some v
def two32 : Int:=4294967296
def SW (P : Program) (E : Env) (w : World) : Prop:=KW P E w /\ (∃ y : Int,w.cell? E.sm = some (.int .u32 y)) /\ ∃ x : Int,w.cell? E.st = some (.int .u64 x)
def EvS (E : Env) (e : Event) : Prop:=∃ a,e = ⟨.cell a,false,false⟩ /\ (E.Kc a).isSome = true
def AtRecv (P : Program) (main : Bool) (E : Env) (c : Nat) (z : Value) (r g : Goroutine) : Prop :=
 g.status = .running /\ ∃ es,(∀ e ∈ es,EvS E e) /\ ∀ w,KW P E w -> stepG P main g w = .comm r #[rcase c z] true (.recv false) w es
inductive Way (P : Program) (main : Bool) (E : Env) (c : Nat) (z : Value) (r : Goroutine) : Nat -> Goroutine -> Prop
 | here {g : Goroutine} (h : AtRecv P main E c z r g) : Way P main E c z r 1 g
 | step {n : Nat} {g g' : Goroutine} (es : Array Event) (hr : g.status = .running) (he : ∀ e ∈ es,EvS E e) (hs : ∀ w,KW P E w -> stepG P main g w = .go g' w es) (h : Way P main E c z r n g') : Way P main E c z r (n + 1) g
inductive Fin (P : Program) (E : Env) (Lst : Nat -> Nat -> Goroutine -> Prop) : Nat -> Nat -> Goroutine -> Prop
 | plain {n d : Nat} {g g' : Goroutine} (hr : g.status = .running) (hs : ∀ w,SW P E w -> stepG P false g w = .go g' w #[]) (h : Fin P E Lst n d g') : Fin P E Lst (n + 1) d g
 | rel {n : Nat} {g g' : Goroutine} (hr : g.status = .running) (hs : ∀ w,SW P E w -> stepG P false g w = .go g' w #[⟨.mark (.releaseMerge E.st),false,true⟩]) (h : Fin P E Lst n 0 g') : Fin P E Lst (n + 1) 0 g
 | dis {n d : Nat} {g g' : Goroutine} (hr : g.status = .running) (hs : ∀ w,SW P E w -> stepG P false g w = .go g' w #[⟨.mark .disable,false,true⟩]) (h : Fin P E Lst n (d + 1) g') : Fin P E Lst (n + 1) d g
 | add {n m d : Nat} {g : Goroutine} (hr : g.status = .running)
     (hs : ∀ w (v wt : Nat),KW P E w -> wt <= 1 -> v < 2147483647 -> w.cell? E.st = some (.int .u64 ((v + 1) * two32 + wt)) ->
       ∃ g',stepG P false g w = .go g' (w.setCell E.st (.int .u64 (v * two32 + wt))) #[⟨.cell E.st,false,true⟩,⟨.cell E.st,true,true⟩] /\ (¬ (v = 0 /\ wt = 1) -> QuitsD P n (d + 1) g') /\ ((v = 0 /\ wt = 1) -> Lst m (d + 1) g')) : Fin P E Lst (n + m + 1) (d + 1) g
inductive Role where
 | seat (c : Nat) (z : Value) (r : Goroutine)
 | fin
 | quit
def Sits (P : Program) (main : Bool) (E : Env) (c : Nat) (z : Value) (r : Goroutine) (n : Nat) (g : Goroutine) : Prop:=Way P main E c z r n g ∨ (n = 0 /\ g = parked r #[rcase c z] (.recv false))
def Idle (P : Program) (E : Env) (Lst : Nat -> Nat -> Goroutine -> Prop) (T : Trace) (i n : Nat) (g : Goroutine) : Role -> Prop
 | .seat c z r=>Sits P (i == 0) E c z r n g
 | .fin=>0 < i /\ Fin P E Lst n (Deaf T i) g
 | .quit=>0 < i /\ QuitsD P n (Deaf T i) g
def isSeat : Role -> Bool
 | .seat ..=>true
 | _=>false
def counts (role : Nat -> Role) (i : Nat) : Nat:=if i = 0 then 0 else match role i with | .quit=>0 | _=>1
structure Rg (P : Program) (E : Env) (Lst : Nat -> Nat -> Goroutine -> Prop) (role : Nat -> Role) (h dh pend : Nat) (V : World) (T : Trace) (gs : Array Goroutine) (w : World) (q : Nat -> Nat) : Prop where
 idle : ∀ i g,i ≠ h -> gs[i]? = some g -> Idle P E Lst T i (q i) g (role i)
 rest : ∀ c lo hi,E.Z c = some (0,lo,hi) -> ∃ k,w.heap[c]? = some (.chan 0 #[] false k k false)
 zc : ∀ i c z r,role i = .seat c z r -> ∃ lo hi,E.Z c = some (0,lo,hi)
 inj : ∀ i i' c z z' r r',role i = .seat c z r -> role i' = .seat c z' r' -> i = i'
 holder : role h = .fin
 above : ∀ j,gs.size <= j -> Deaf T j = 0 /\ role j = .quit
 past : PastR E.still E.shun (fun g=>g = h ∨ isSeat (role g) = true) (fun g=>g ≠ h /\ isSeat (role g) = true) w.heap.size h dh T
 keep : KW P E w
 view : pz E.Z w = V
 count : w.cell? E.st = some (.int .u64 ((sumTo gs.size (counts role) + pend : Nat) * two32))
 small : sumTo gs.size (counts role) + pend < 2147483647
 sema : w.cell? E.sm = some (.int .u32 0)
section
variable {P : Program} {E : Env} {Lst : Nat -> Nat -> Goroutine -> Prop}
theorem still_shun (hE : EnvOk E) (l : Loc) (h : E.still l) : ¬ E.shun l:=by
 rintro ⟨a',k',lo',hi',rfl,hz,hk⟩
 obtain ⟨a,e,ha⟩:=h
 obtain rfl : a' = a:=by simpa using e
 obtain ⟨v,hv⟩:=Option.isSome_iff_exists.1 ha
 obtain ⟨_,k,lo,hi,hz',_,_,h3⟩:=hE.kc a' v hv
 rw [hz] at hz'
 obtain ⟨rfl,rfl,rfl⟩ : k' = k /\ lo' = lo /\ hi' = hi:=by simpa using hz'
 omega
theorem KW.at {w : World} (d : Nat) (h : KW P E w) : KW P E (w.at d):=⟨⟨h.1.cut,h.1.rows,h.1.chans,h.1.glob,h.1.bad⟩,h.2⟩
theorem cell_lt {w : World} {a : Addr} {v : Value} (h : w.cell? a = some v) : a.block < w.heap.size:=by
 unfold World.cell? at h
 cases ho : w.heap[a.block]? with
 | none=>rw [ho] at h; simp at h
 | some o=>exact (Array.getElem?_eq_some_iff.1 ho).1
theorem Way.status {main : Bool} {c : Nat} {z : Value} {r g : Goroutine} {n : Nat} (h : Way P main E c z r n g) : g.status = .running /\ 0 < n:=by
 cases h with
 | here h=>exact ⟨h.1,by omega⟩
 | step _ hr=>exact ⟨hr,by omega⟩
theorem Fin.status {n d : Nat} {g : Goroutine} (h : Fin P E Lst n d g) : g.status = .running /\ 0 < n:=by
 cases h <;> exact ⟨by assumption,by omega⟩
theorem evS_ops {w : World} (hK : KW P E w) {i : Nat} {fn : FuncId} {pos : String} {es : Array Event} (h : ∀ e ∈ es,EvS E e) :
   (∀ op ∈ MemOp.ofEvents i fn pos es,op.g = i) /\ (∀ op ∈ MemOp.ofEvents i fn pos es,∀ b,op.act.touch? = some b -> b.write = false /\ E.still b.loc) /\ (∀ op ∈ MemOp.ofEvents i fn pos es,op.act.low w.heap.size) /\ ∀ t : Trace,Deaf (t ++ MemOp.ofEvents i fn pos es) i = Deaf t i:=by
 refine ⟨fun op hop=>by obtain ⟨e,_,rfl⟩:=Go.Conc.mem_ofEvents hop; rfl,fun op hop b hb=>?_,fun op hop=>?_,fun t=>?_⟩
 . obtain ⟨e,he,rfl⟩:=Go.Conc.mem_ofEvents hop
   obtain ⟨a,rfl,hS⟩:=h e he
   simp only [ofEvent_cell0,MemAct.touch?,Option.some.injEq] at hb
   subst hb
   exact ⟨rfl,a,rfl,hS⟩
 . obtain ⟨e,he,rfl⟩:=Go.Conc.mem_ofEvents hop
   obtain ⟨a,rfl,hS⟩:=h e he
   obtain ⟨v,hv⟩:=Option.isSome_iff_exists.1 hS
   rw [ofEvent_cell0]; exact cell_lt (hK.2 a v hv)
 . rw [Deaf_own]
   exact deafBehind_still (fun e he=>by obtain ⟨a,rfl,_⟩:=h e he; exact ⟨by simp,by simp⟩) _
theorem setCell_heap (w : World) (a : Addr) (v : Value) (b : Nat) : (w.setCell a v).heap[b]? = if b = a.block then (w.heap[b]?).map (fun o=>match o with | .cells c e f=>.cells (if a.spot.isSome then c else c.setIfInBounds a.off v) e f | o=>o) else w.heap[b]?:=by
 simp only [World.setCell,Array.getElem?_modify]
 by_cases h : b = a.block
 . subst h; simp; rfl
 . have h' : ¬ a.block = b:=fun e=>h e.symm
   simp [h,h']
structure Kin (w w' : World) : Prop where
 os : w'.os = w.os
 output : w'.output = w.output
 tape : w'.tape = w.tape
 view : ∀ (b : Nat) (a : Addr) (u : TypeId),w'.heap[b]? = some (Obj.view a u) -> w.heap[b]? = some (Obj.view a u)
theorem Kin.refl (w : World) : Kin w w:=⟨rfl,rfl,rfl,fun _ _ _ h=>h⟩
theorem Kin.trans {w wY wX : World} (h : Kin w wY) (k : Kin wY wX) : Kin w wX:=⟨k.os.trans h.os,k.output.trans h.output,k.tape.trans h.tape,fun b a u x=>h.view b a u (k.view b a u x)⟩
theorem Kin.at {w w' : World} (h : Kin w w') (d : Nat) : Kin w (w'.at d):=⟨h.os,h.output,h.tape,h.view⟩
theorem Kin.ofAt {w w' : World} {d : Nat} (h : Kin (w.at d) w') : Kin w w':=⟨h.os,h.output,h.tape,h.view⟩
theorem Kin.hid {Z : Cuts} {w w' : World} (h : Hidden Z w w') : Kin w w':=⟨h.os,h.output,h.tape,h.view⟩
theorem Kin.cell (w : World) (a : Addr) (v : Value) : Kin w (w.setCell a v):=⟨rfl,rfl,rfl,fun b a' u h=>by
 rw [setCell_heap] at h
 split at h
 . cases ho : w.heap[b]? with
   | none=>rw [ho] at h; cases h
   | some o=>rw [ho] at h; cases o <;> first | exact h | simp at h
 . exact h⟩
theorem Kin.chan (w : World) (c cap : Nat) (buf : Array Value) (cl : Bool) (s r : Nat) (tm : Bool) : Kin w (w.setChan c cap buf cl s r tm):=⟨rfl,rfl,rfl,fun b a' u h=>by
 have h' : (w.heap.setIfInBounds c (.chan cap buf cl s r tm))[b]? = some (Obj.view a' u):=h
 rw [Array.getElem?_setIfInBounds] at h'
 split at h'
 . split at h' <;> simp at h'
 . exact h'⟩
theorem Kin.push (w : World) (o : Obj) (ho : ∀ a u,o ≠ .view a u) : Kin w { w with heap:=w.heap.push o }:=⟨rfl,rfl,rfl,fun b a' u h=>by
 have h' : (w.heap.push o)[b]? = some (Obj.view a' u):=h
 rw [Array.getElem?_push] at h'
 split at h'
 . exact absurd (Option.some.inj h') (ho _ _)
 . exact h'⟩
theorem Kin.step {w w' : World} {a : Addr} (h : w' = w ∨ ∃ v,w' = w.setCell a v) : Kin w w':=by
 rcases h with rfl | ⟨v,rfl⟩
 . exact Kin.refl _
 . exact Kin.cell _ _ _
theorem pz_setSt (hE : EnvOk E) {w : World} (hf : Fit P E.Z w) (v : Value) : pz E.Z (w.setCell E.st v) = pz E.Z w:=by
 obtain ⟨hs,k,lo,hi,hz,h1,h2⟩:=hE.st
 have e : (w.setCell E.st v).heap.mapIdx (fun b o=>pobj (E.Z b) o) = w.heap.mapIdx fun b o=>pobj (E.Z b) o:=by
   apply Array.ext_getElem?
   intro b
   rw [Array.getElem?_mapIdx,Array.getElem?_mapIdx,setCell_heap]
   by_cases hb : b = E.st.block
   . subst hb
     obtain ⟨c,el,f,hc⟩:=hf.rows _ k lo hi hz
     simp only [if_true,hc,hz,Option.map_some,pobj,hs,Option.isSome_none,if_false,Bool.false_eq_true]
     congr 2
     apply Array.ext_getElem?
     intro m
     simp only [Array.getElem?_extract,Array.size_setIfInBounds,Nat.zero_add,Nat.sub_zero]
     split
     . rw [Array.getElem?_setIfInBounds_ne (by omega)]
     . rfl
   . simp only [hb,if_false]
 unfold pz
 rw [e]
 rfl
theorem fit_setSt (hE : EnvOk E) {w : World} (hf : Fit P E.Z w) (v : Value) : Fit P E.Z (w.setCell E.st v):=by
 obtain ⟨hs,k,lo,hi,hz,h1,h2⟩:=hE.st
 refine ⟨fun b s hb=>?_,fun b k' lo' hi' hb=>?_,fun b lo' hi' hb=>?_,fun b hb=>?_,hf.bad⟩
 . obtain ⟨g1,o,g2,g3⟩:=hf.cut b s hb
   refine ⟨g1,?_⟩
   rw [setCell_heap]
   by_cases hbs : b = E.st.block
   . rw [if_pos hbs,g2]
     rcases g3 with ⟨c,e,rfl⟩ | ⟨c1,c2,c3,c4,c5,c6,rfl⟩
     . exact ⟨_,rfl,.inl ⟨_,_,rfl⟩⟩
     . exact ⟨_,rfl,.inr ⟨_,_,_,_,_,_,rfl⟩⟩
   . rw [if_neg hbs]; exact ⟨o,g2,g3⟩
 . obtain ⟨c,e,f,g⟩:=hf.rows b k' lo' hi' hb
   rw [setCell_heap]
   by_cases hbs : b = E.st.block
   . rw [if_pos hbs,g]; exact ⟨_,_,_,rfl⟩
   . rw [if_neg hbs]; exact ⟨c,e,f,g⟩
 . obtain ⟨c1,c2,c3,c4,c5,c6,g⟩:=hf.chans b lo' hi' hb
   rw [setCell_heap]
   by_cases hbs : b = E.st.block
   . rw [if_pos hbs,g]; exact ⟨_,_,_,_,_,_,rfl⟩
   . rw [if_neg hbs]; exact ⟨c1,c2,c3,c4,c5,c6,g⟩
 . obtain ⟨c,e,f,g⟩:=hf.glob b hb
   rw [setCell_heap]
   by_cases hbs : b = E.st.block
   . rw [if_pos hbs,g]; exact ⟨_,_,_,rfl⟩
   . rw [if_neg hbs]; exact ⟨c,e,f,g⟩
theorem cell_setSt_ne {w : World} {a b : Addr} (v : Value) (h : a.block ≠ b.block ∨ a.off ≠ b.off) : (w.setCell b v).cell? a = w.cell? a:=by
 unfold World.cell?
 rw [setCell_heap]
 by_cases hb : a.block = b.block
 . have ho : a.off ≠ b.off:=h.resolve_left fun x=>x hb
   rw [if_pos hb]
   cases hh : w.heap[a.block]? with
   | none=>rfl
   | some o =>
     cases o with
     | cells c e f =>
       simp only [Option.map_some]
       by_cases hs : a.spot.isSome
       . simp [hs]
       . by_cases hs2 : b.spot.isSome
         . simp [hs2]
         . simp [hs,hs2,Array.getElem?_setIfInBounds_ne (Ne.symm ho)]
     | _=>rfl
 . rw [if_neg hb]
theorem cell_setSt_self (hE : EnvOk E) {w : World} {v v' : Value} (h : w.cell? E.st = some v') : (w.setCell E.st v).cell? E.st = some v:=by
 obtain ⟨hs,_⟩:=hE.st
 unfold World.cell? at *
 rw [setCell_heap,if_pos rfl]
 cases hh : w.heap[E.st.block]? with
 | none=>rw [hh] at h; simp at h
 | some o =>
   rw [hh] at h
   cases o with
   | cells c e f =>
     simp only [hs,Option.isSome_none,if_false,Bool.false_eq_true] at h ⊢
     have hlt:=(Array.getElem?_eq_some_iff.1 h).1
     simp [hs,hlt]
   | _=>simp at h
theorem KW.setSt (hE : EnvOk E) {w : World} (h : KW P E w) (v : Value) : KW P E (w.setCell E.st v):=by
 refine ⟨fit_setSt hE h.1 v,fun a u hu=>?_⟩
 rw [cell_setSt_ne]
 . exact h.2 a u hu
 . obtain ⟨_,k,lo,hi,hz,h1,h2,h3⟩:=hE.kc a u hu
   obtain ⟨_,k',lo',hi',hz',g1,g2⟩:=hE.st
   by_cases hb : a.block = E.st.block
   . right
     rw [hb,hz'] at hz
     obtain ⟨rfl,rfl,rfl⟩ : k' + 1 = k /\ lo' = lo /\ hi' = hi:=by simpa using hz
     omega
   . exact .inl hb
theorem size_setCell (w : World) (a : Addr) (v : Value) : (w.setCell a v).heap.size = w.heap.size:=by simp [World.setCell]
theorem chan_setSt {w : World} {c : Nat} {cap : Nat} {buf : Array Value} {cl : Bool} {s r : Nat} {tm : Bool} (a : Addr) (v : Value) (h : w.heap[c]? = some (.chan cap buf cl s r tm)) : (w.setCell a v).heap[c]? = some (.chan cap buf cl s r tm):=by
 rw [setCell_heap]
 by_cases hb : c = a.block
 . rw [if_pos hb,h]; rfl
 . rw [if_neg hb,h]
variable {role : Nat -> Role} {h dh pend : Nat} {V : World} {T : Trace} {gs : Array Goroutine} {w : World} {q : Nat -> Nat}
theorem Sits.status {main : Bool} {c : Nat} {z : Value} {r g : Goroutine} {n : Nat} (hs : Sits P main E c z r n g) : (g.status = .running /\ 0 < n) ∨ (g.status = .blocked /\ n = 0):=by
 rcases hs with h | ⟨rfl,rfl⟩
 . exact .inl h.status
 . exact .inr ⟨rfl,rfl⟩
structure ChanKept (w w' : World) : Prop where
 chan : ∀ (c cap : Nat) (buf : Array Value) (cl : Bool) (s r : Nat) (tm : Bool),w.heap[c]? = some (Obj.chan cap buf cl s r tm) -> w'.heap[c]? = some (Obj.chan cap buf cl s r tm)
 kin : Kin w w'
theorem ChanKept.refl (w : World) : ChanKept w w:=⟨fun _ _ _ _ _ _ _ h=>h,Kin.refl w⟩
theorem ChanKept.setCell (w : World) (a : Addr) (v : Value) : ChanKept w (w.setCell a v):=⟨fun _ _ _ _ _ _ _ h=>chan_setSt a v h,Kin.cell w a v⟩
theorem Rg.chans (C : Rg P E Lst role h dh pend V T gs w q) (i c : Nat) (z : Value) (r : Goroutine) (e : role i = .seat c z r) : ∃ k,w.heap[c]? = some (.chan 0 #[] false k k false) :=
 let ⟨lo,hi,hz⟩:=C.zc i c z r e; C.rest c lo hi hz
theorem Rg.fixed (C : Rg P E Lst role h dh pend V T gs w q) {w' : World} (hk : ChanKept w w') {x : Nat} {y : Goroutine} (hx : x ≠ h) (hy : gs[x]? = some y) : y.again w' = y:=by
 have hi:=C.idle x y hx hy
 cases e : role x with
 | quit=>rw [e] at hi; exact again_running w' hi.2.status
 | fin=>rw [e] at hi; exact again_running w' (.inl hi.2.status.1)
 | seat c z r =>
   rw [e] at hi
   rcases hi with h1 | ⟨_,rfl⟩
   . exact again_running w' (.inl h1.status.1)
   . obtain ⟨k,hc⟩:=C.chans x c z r e
     refine again_all_open fun cc hcc=>?_
     simp only [List.mem_toArray,List.mem_cons,List.not_mem_nil,or_false] at hcc
     exact ⟨c,z,_,_,_,_,_,hcc,hk.chan _ _ _ _ _ _ _ hc⟩
theorem Rg.noSend (C : Rg P E Lst role h dh pend V T gs w q) {x : Nat} {y : Goroutine} (hx : x ≠ h) (hy : gs[x]? = some y) (c : Nat) : offersAt y c true = []:=by
 have hi:=C.idle x y hx hy
 cases e : role x with
 | quit=>rw [e] at hi; exact offersAt_of_not_blocked (fun hb=>by rcases hi.2.status with z | z <;> rw [z] at hb <;> cases hb) c true
 | fin=>rw [e] at hi; exact offersAt_of_not_blocked (fun hb=>by rw [hi.2.status.1] at hb; cases hb) c true
 | seat c' z r =>
   rw [e] at hi
   rcases hi with h1 | ⟨_,rfl⟩
   . exact offersAt_of_not_blocked (fun hb=>by rw [h1.status.1] at hb; cases hb) c true
   . exact offersAt_parked_recv' _ _ _ _ _
theorem Rg.noRecvAt (C : Rg P E Lst role h dh pend V T gs w q) {x : Nat} {y : Goroutine} (hx : x ≠ h) (hy : gs[x]? = some y) {c : Nat} (hc : ∀ z r,role x ≠ .seat c z r) : offersAt y c false = []:=by
 have hi:=C.idle x y hx hy
 cases e : role x with
 | quit=>rw [e] at hi; exact offersAt_of_not_blocked (fun hb=>by rcases hi.2.status with z | z <;> rw [z] at hb <;> cases hb) c false
 | fin=>rw [e] at hi; exact offersAt_of_not_blocked (fun hb=>by rw [hi.2.status.1] at hb; cases hb) c false
 | seat c' z r =>
   rw [e] at hi
   rcases hi with h1 | ⟨_,rfl⟩
   . exact offersAt_of_not_blocked (fun hb=>by rw [h1.status.1] at hb; cases hb) c false
   . rw [offersAt_parked_recv,if_neg]
     rintro rfl
     exact hc z r e
theorem Rg.at (C : Rg P E Lst role h dh pend V T gs w q) (d : Nat) : Rg P E Lst role h dh pend V T gs (w.at d) q :=
 ⟨C.idle,C.rest,C.zc,C.inj,C.holder,C.above,C.past,C.keep.at d,C.view,C.count,C.small,C.sema⟩
theorem Rg.awake (C : Rg P E Lst role h dh pend V T gs w q) {a : Goroutine} (ha : gs[h]? = some a) (hs : a.status = .running ∨ a.status = .blocked) : ∀ g ∈ gs,awake g:=by
 intro g hg
 obtain ⟨i,hi,rfl⟩:=Array.mem_iff_getElem.1 hg
 by_cases e : i = h
 . subst e
   have : gs[i] = a:=by simpa [Array.getElem?_eq_getElem hi] using ha
   rw [this]; exact awake_of (hs.elim .inl fun x=>.inr (.inl x))
 . have hid:=C.idle i _ e (Array.getElem?_eq_getElem hi)
   cases es : role i with
   | quit=>rw [es] at hid; exact awake_of (hid.2.status.elim .inl fun x=>.inr (.inr x))
   | fin=>rw [es] at hid; exact awake_of (.inl hid.2.status.1)
   | seat c z r=>rw [es] at hid; exact awake_of (hid.status.elim (fun x=>.inl x.1) fun x=>.inr (.inl x.1))
theorem Rg.put (C : Rg P E Lst role h dh pend V T gs w q) {i n' : Nat} {g' : Goroutine} {ops : Array MemOp} {gs' : Array Goroutine} {w' : World} {role' : Nat -> Role} (hih : i ≠ h) (hlt : i < gs.size) (hsz : gs'.size = gs.size) (hother : ∀ x,x ≠ i -> gs'[x]? = gs[x]?) (hself : gs'[i]? = some g')
   (hops : ∀ op ∈ ops,op.g = i) (hrole : ∀ x,x ≠ i -> role' x = role x) (hri : role' i = role i ∨ role i = .fin /\ role' i = .quit) (hidle : Idle P E Lst (T ++ ops) i n' g' (role' i))
   (hck : ChanKept w w') (hkeep : KW P E w') (hview : pz E.Z w' = V) (hcount : w'.cell? E.st = some (.int .u64 ((sumTo gs.size (counts role') + pend : Nat) * two32))) (hsmall : sumTo gs.size (counts role') + pend < 2147483647) (hsema : w'.cell? E.sm = some (.int .u32 0))
   (hpast : PastR E.still E.shun (fun g=>g = h ∨ isSeat (role g) = true) (fun g=>g ≠ h /\ isSeat (role g) = true) w'.heap.size h dh (T ++ ops)) : Rg P E Lst role' h dh pend V (T ++ ops) gs' w' (upd q i n'):=by
 have hss : ∀ x,isSeat (role' x) = isSeat (role x):=fun x=>by
   by_cases e : x = i
   . subst e
     rcases hri with h1 | ⟨h1,h2⟩
     . rw [h1]
     . rw [h1,h2]; rfl
   . rw [hrole x e]
 have hseat : ∀ {x c z r},role' x = .seat c z r -> role x = .seat c z r:=fun {x c z r} hx=>by
   by_cases e : x = i
   . subst e
     rcases hri with h1 | ⟨h1,h2⟩
     . rw [← h1]; exact hx
     . rw [h2] at hx; cases hx
   . rw [← hrole x e]; exact hx
 refine ⟨fun x y hx hy=>?_,fun c lo hi hz=>?_,fun x c z r hx=>C.zc x c z r (hseat hx),fun x x' c z z' r r' hx hx'=>C.inj x x' c z z' r r' (hseat hx) (hseat hx'),by rw [hrole h (Ne.symm hih)]; exact C.holder,fun j hj=>?_,?_,hkeep,hview,by rw [hsz]; exact hcount,by rw [hsz]; exact hsmall,hsema⟩
 . by_cases e : x = i
   . subst e
     rw [hself] at hy
     obtain rfl:=Option.some.inj hy
     rw [upd_same]; exact hidle
   . rw [hother x e] at hy
     rw [upd_ne q n' e,hrole x e]
     have hi:=C.idle x y hx hy
     have hD : Deaf (T ++ ops) x = Deaf T x:=Deaf_other T (fun z=>e z.symm) ops hops
     cases es : role x with
     | quit=>rw [es] at hi; exact ⟨hi.1,by rw [hD]; exact hi.2⟩
     | fin=>rw [es] at hi; exact ⟨hi.1,by rw [hD]; exact hi.2⟩
     | seat c z r=>rw [es] at hi; exact hi
 . obtain ⟨k,hk⟩:=C.rest c lo hi hz
   exact ⟨k,hck.chan _ _ _ _ _ _ _ hk⟩
 . rw [hsz] at hj
   obtain ⟨h1,h2⟩:=C.above j hj
   exact ⟨by rw [Deaf_other T (g':=i) (by omega) ops hops]; exact h1,by rw [hrole j (by omega)]; exact h2⟩
 . simp only [hss]
   exact hpast
theorem counts_quit {i : Nat} (hpos : 0 < i) : counts (upd role i .quit) = upd (counts role) i 0:=by
 funext x
 by_cases e : x = i
 . subst e
   have : x ≠ 0:=by omega
   simp [counts,upd,this]
 . simp [counts,upd,e]
theorem Rg.by_step (hE : EnvOk E) (C : Rg P E Lst role h dh pend V T gs w q) {i : Nat} {g : Goroutine} {sl : Option (Nat × Nat)} (hi : gs[i]? = some g) (hih : i ≠ h) (hrun : g.status = .running)
   (hsA : ∀ gx,gs[h]? = some gx -> ∀ w',ChanKept w w' -> gx.again w' = gx)
   (hsO : ∀ c z r,role i = .seat c z r -> AtRecv P (i == 0) E c z r g -> ∀ gx,gs[h]? = some gx -> offersAt gx c true = []) :
   ∃ (gs' : Array Goroutine) (w' : World) (ops : Array MemOp) (q' : Nat -> Nat) (role' : Nat -> Role),runT P (crowd gs w sl) i = (.next (crowd gs' w' sl),ops) /\ gs'.size = gs.size /\ gs'[h]? = gs[h]? /\ (∀ x,x ≠ i -> gs'[x]? = gs[x]?) /\ (w' = w ∨ ∃ v,w' = w.setCell E.st v) /\ (∀ x,x ≠ i -> role' x = role x) /\ (role' i = role i ∨ role i = .fin /\ role' i = .quit) /\ (∀ x,x ≠ i -> q' x = q x) /\
     (∀ c z r,role i = .seat c z r -> q' i = 0 -> AtRecv P (i == 0) E c z r g) /\ Rg P E Lst role' h dh pend V (T ++ ops) gs' w' q' /\ sumTo gs.size q' < sumTo gs.size q:=by
 have hlt : i < gs.size:=(Array.getElem?_eq_some_iff.1 hi).1
 have hfix : ∀ (w' : World),ChanKept w w' -> ∀ (a a' : Goroutine) (x : Nat) (y : Goroutine),gs[x]? = some y -> woken P a a' w' y = y:=fun w' hk a a' x y hy=>woken_of_again (by
   by_cases hx : x = h
   . subst hx; exact hsA y hy w' hk
   . exact C.fixed hk hx hy)
 have harr : ∀ (w' : World),ChanKept w w' -> ∀ (a' g' : Goroutine) (x : Nat),x ≠ i -> ((gs.map (woken P g a' w')).setIfInBounds i g')[x]? = gs[x]?:=by
   intro w' hk a' g' x hx
   rw [Array.getElem?_setIfInBounds_ne (fun e=>hx e.symm),Array.getElem?_map]
   cases e : gs[x]? with
   | none=>rfl
   | some y=>simp [hfix w' hk g a' x y e]
 have hself : ∀ (w' : World) (a' g' : Goroutine),((gs.map (woken P g a' w')).setIfInBounds i g')[i]? = some g':=fun w' a' g'=>Array.getElem?_setIfInBounds_self_of_lt (by simpa using hlt)
 have hsum : ∀ k,k < q i -> sumTo gs.size (upd q i k) < sumTo gs.size q:=by
   intro k hqi
   have h2 : sumTo gs.size (upd q i k) + q i = sumTo gs.size q + k:=sumTo_upd q k id hlt
   omega
 have hmine : ∀ {fn : FuncId} {pos : String} {es : Array Event},∀ op ∈ MemOp.ofEvents i fn pos es,op.g = i:=fun op hop=>by obtain ⟨e,_,rfl⟩:=Go.Conc.mem_ofEvents hop; rfl
 have hid:=C.idle i g hih hi
 have hmem : isSeat (role i) = false -> ¬ (i = h ∨ isSeat (role i) = true):=fun e=>by simp [hih,e]
 have hdh : ∀ {ops : Array MemOp},(∀ op ∈ ops,op.g = i) -> Deaf (T ++ ops) h = dh:=fun ho=>(Deaf_other T hih _ ho).trans C.past.deafh
 -- a step that touches nothing
 have mute : ∀ (g' : Goroutine) (es : Array Event) (n' : Nat),isSeat (role i) = false -> stepG P (i == 0) g w = .go g' w es -> (∀ e ∈ es,(MemAct.ofEvent e).touch? = none) -> (∀ e ∈ es,(MemAct.ofEvent e).low w.heap.size) -> n' < q i ->
     Idle P E Lst (T ++ MemOp.ofEvents i g.frame.fn g.frame.place es) i n' g' (role i) ->
     ∃ (gs' : Array Goroutine) (w' : World) (ops : Array MemOp) (q' : Nat -> Nat) (role' : Nat -> Role),runT P (crowd gs w sl) i = (.next (crowd gs' w' sl),ops) /\ gs'.size = gs.size /\ gs'[h]? = gs[h]? /\ (∀ x,x ≠ i -> gs'[x]? = gs[x]?) /\ (w' = w ∨ ∃ v,w' = w.setCell E.st v) /\ (∀ x,x ≠ i -> role' x = role x) /\ (role' i = role i ∨ role i = .fin /\ role' i = .quit) /\ (∀ x,x ≠ i -> q' x = q x) /\
       (∀ c z r,role i = .seat c z r -> q' i = 0 -> AtRecv P (i == 0) E c z r g) /\ Rg P E Lst role' h dh pend V (T ++ ops) gs' w' q' /\ sumTo gs.size q' < sumTo gs.size q:=by
   intro g' es n' hns hstp htouch hlow hn hidle
   refine ⟨_,w,_,upd q i n',role,runT_crowd_go (sl:=sl) hi hstp,by simp,harr w (ChanKept.refl w) _ _ h (Ne.symm hih),fun x hx=>harr w (ChanKept.refl w) _ _ x hx,.inl rfl,fun _ _=>rfl,.inl rfl,fun x hx=>upd_ne q n' hx,fun c z r hr=>(by rw [hr] at hns; cases hns),?_,hsum n' hn⟩
   refine C.put hih hlt (by simp) (fun x hx=>harr w (ChanKept.refl w) _ _ x hx) (hself w _ _) hmine (fun _ _=>rfl) (.inl rfl) hidle (ChanKept.refl w) C.keep C.view C.count C.small C.sema ?_
   exact C.past.appMute hmine (fun op hop=>by obtain ⟨e,he,rfl⟩:=Go.Conc.mem_ofEvents hop; exact htouch e he) (fun hM _=>absurd hM (hmem hns)) (hdh hmine) (fun op hop=>by obtain ⟨e,he,rfl⟩:=Go.Conc.mem_ofEvents hop; exact hlow e he)
 obtain ⟨ro,e⟩ : ∃ ro,role i = ro:=⟨_,rfl⟩
 cases ro with
 | quit =>
   rw [e] at hid
   obtain ⟨hpos,hq⟩:=hid
   have hi0 : (i == 0) = false:=by simp; omega
   cases hqi : q i with
   | zero=>rw [hqi] at hq; rw [hq.1] at hrun; cases hrun
   | succ k =>
     rw [hqi] at hq
     rcases hq with ⟨hf,_⟩ | ⟨_,g',es,hm,hstp,hq'⟩
     . rw [hf] at hrun; cases hrun
     exact mute g' es k (by rw [e]; rfl) (by rw [hi0]; exact hstp w) (fun e he=>touch_mute (hm e he)) (fun e he=>low_mute (hm e he) _) (by omega) (by rw [e]; exact ⟨hpos,by rw [Deaf_own]; exact hq'⟩)
 | fin =>
   rw [e] at hid
   obtain ⟨hpos,hq⟩:=hid
   have hi0 : (i == 0) = false:=by simp; omega
   have hone : 0 < sumTo gs.size (counts role):=by
     have h1 : counts role i <= sumTo gs.size (counts role):=Go.ConcN.le_sumTo (f:=counts role) hlt
     have h2 : counts role i = 1:=by
       have : i ≠ 0:=by omega
       simp [counts,this,e]
     omega
   have hSW : SW P E w:=⟨C.keep,⟨_,C.sema⟩,_,C.count⟩
   generalize hqi : q i = n at hq
   generalize hdi : Deaf T i = d at hq
   cases hq with
   | @plain n d g g' hr hs hf =>
     refine mute g' #[] n (by rw [e]; rfl) (by rw [hi0]; exact hs w hSW) (by simp) (by simp) (by omega) (by
       rw [e]
       refine ⟨hpos,?_⟩
       rw [Deaf_own,hdi]
       exact hf)
   | @rel n g g' hr hs hf =>
     refine mute g' _ n (by rw [e]; rfl) (by rw [hi0]; exact hs w hSW) (by simp [MemAct.ofEvent,MemAct.touch?]) (by simp [MemAct.ofEvent,MemAct.low]; exact cell_lt C.count) (by omega) (by
       rw [e]
       refine ⟨hpos,?_⟩
       rw [Deaf_own,hdi]
       exact hf)
   | @dis n d g g' hr hs hf =>
     refine mute g' _ n (by rw [e]; rfl) (by rw [hi0]; exact hs w hSW) (by simp [MemAct.ofEvent,MemAct.touch?]) (by simp [MemAct.ofEvent,MemAct.low]) (by omega) (by
       rw [e]
       refine ⟨hpos,?_⟩
       rw [Deaf_own,hdi]
       exact hf)
   | @add n m d g hr hs =>
     obtain ⟨v,hv⟩ : ∃ v,sumTo gs.size (counts role) + pend = v + 1:=⟨sumTo gs.size (counts role) + pend - 1,by omega⟩
     have hc:=C.count
     rw [hv] at hc
     have hsm:=C.small
     obtain ⟨g',hstp,hquit,_⟩:=hs w v 0 C.keep (by omega) (by omega) (by rw [hc]; simp)
     have hq:=hquit (by omega)
     have hc' : (w.setCell E.st (.int .u64 (v * two32 + (0 : Nat)))).cell? E.st = some (.int .u64 (v * two32)):=by rw [cell_setSt_self hE hc]; simp
     have hck:=ChanKept.setCell w E.st (.int .u64 (v * two32 + (0 : Nat)))
     have hcq : sumTo gs.size (counts (upd role i .quit)) + 1 = sumTo gs.size (counts role):=by
       rw [counts_quit hpos]
       have h2 : sumTo gs.size (upd (counts role) i 0) + counts role i = sumTo gs.size (counts role) + 0:=sumTo_upd (counts role) 0 id hlt
       have h3 : counts role i = 1:=by
         have : i ≠ 0:=by omega
         simp [counts,this,e]
       omega
     refine ⟨_,_,_,upd q i n,upd role i .quit,runT_crowd_go (sl:=sl) hi (by rw [hi0]; exact hstp),by simp,harr _ hck _ _ h (Ne.symm hih),fun x hx=>harr _ hck _ _ x hx,.inr ⟨_,rfl⟩,fun x hx=>upd_ne role _ hx,.inr ⟨e,upd_same role i _⟩,fun x hx=>upd_ne q n hx,fun c z r hr=>(by rw [hr] at e; cases e),?_,hsum n (by omega)⟩
     refine C.put hih hlt (by simp) (fun x hx=>harr _ hck _ _ x hx) (hself _ _ _) hmine (fun x hx=>upd_ne role _ hx) (.inr ⟨e,upd_same role i _⟩) ?_ hck (C.keep.setSt hE _) ((pz_setSt hE C.keep.1 _).trans C.view) ?_ ?_ (by rw [cell_setSt_ne _ (.inr hE.sm.2.2.1)]; exact C.sema) ?_
     . rw [upd_same]
       refine ⟨hpos,?_⟩
       rw [Deaf_own,hdi]
       exact hq
     . rw [hc']
       congr 3
       omega
     . omega
     . rw [size_setCell]
       refine C.past.appAtomic (still_shun hE) (hmem (by rw [e]; rfl)) hih hmine (fun op hop b hb=>?_) (fun m hm=>?_) (fun op hop=>?_)
       . obtain ⟨ev,he,rfl⟩:=Go.Conc.mem_ofEvents hop
         obtain ⟨_,k,lo,hi',hz,h1,h2⟩:=hE.st
         have hsh : E.shun (.cell E.st):=⟨E.st,k + 1,lo,hi',rfl,hz,h1⟩
         simp only [List.mem_toArray,List.mem_cons,List.not_mem_nil,or_false] at he
         rcases he with rfl | rfl
         . simp only [MemAct.ofEvent,MemAct.touch?,Option.some.injEq] at hb
           subst hb
           exact ⟨hsh,rfl⟩
         . simp only [MemAct.ofEvent,MemAct.touch?,Option.some.injEq] at hb
           subst hb
           exact ⟨hsh,rfl⟩
       . rintro ⟨gQ,hgQ,hdz⟩
         have hml : m < (T ++ MemOp.ofEvents i g.frame.fn g.frame.place #[⟨.cell E.st,false,true⟩,⟨.cell E.st,true,true⟩]).size:=by
           unfold Trace.g? at hgQ
           obtain ⟨z,hz,_⟩:=Option.map_eq_some_iff.1 hgQ
           exact lt_size_of_getElem? hz
         obtain ⟨k,rfl⟩ : ∃ k,m = T.size + k:=⟨m - T.size,by omega⟩
         rw [Array.size_append] at hml
         have hgi : gQ = i:=by
           unfold Trace.g? at hgQ
           obtain ⟨z,hz,hzg⟩:=Option.map_eq_some_iff.1 hgQ
           rw [at_new] at hz
           rw [← hzg]
           exact hmine z (Array.mem_of_getElem? hz)
         subst hgi
         rw [deaf_quiet (fun op hop d=>by
           obtain ⟨ev,he,rfl⟩:=Go.Conc.mem_ofEvents hop
           simp only [List.mem_toArray,List.mem_cons,List.not_mem_nil,or_false] at he
           rcases he with rfl | rfl <;> rfl) k (by omega),hdi] at hdz
         omega
       . obtain ⟨ev,he,rfl⟩:=Go.Conc.mem_ofEvents hop
         have hlt' : E.st.block < w.heap.size:=cell_lt hc
         simp only [List.mem_toArray,List.mem_cons,List.not_mem_nil,or_false] at he
         rcases he with rfl | rfl <;> exact hlt'
 | seat c z r =>
   rw [e] at hid
   have hway : Way P (i == 0) E c z r (q i) g:=by
     rcases hid with h1 | ⟨_,rfl⟩
     . exact h1
     . cases hrun
   have hM : i = h ∨ isSeat (role i) = true:=.inr (by rw [e]; rfl)
   have hL : i ≠ h /\ isSeat (role i) = true:=⟨hih,by rw [e]; rfl⟩
   generalize hqi : q i = n at hway
   cases hway with
   | here hat =>
     obtain ⟨_,es,hes,hstp⟩:=id hat
     obtain ⟨hops,hr,hl,hd⟩:=evS_ops C.keep (i:=i) (fn:=g.frame.fn) (pos:=g.frame.place) hes
     obtain ⟨k,hk⟩:=C.chans i c z r e
     have hw : ∀ cc ∈ #[rcase c z],NoWays w (gs.setIfInBounds i ph) cc:=by
       intro cc hcc
       simp only [List.mem_toArray,List.mem_cons,List.not_mem_nil,or_false] at hcc
       subst hcc
       refine ways_recv_none hk (partners_nil fun x y hy=>?_)
       rcases getElem?_stand gs i x y hy with ⟨_,rfl⟩ | ⟨hx,hy'⟩
       . exact offersAt_ph _ _
       . by_cases hS : x = h
         . subst hS; exact hsO c z r e hat y hy'
         . exact C.noSend hS hy' _
     refine ⟨_,w,_,upd q i 0,role,crowd_waits (sl:=sl) hi (hstp w C.keep) hw,by simp,Array.getElem?_setIfInBounds_ne hih,fun x hx=>Array.getElem?_setIfInBounds_ne (Ne.symm hx),.inl rfl,fun _ _=>rfl,.inl rfl,fun x hx=>upd_ne q 0 hx,fun c' z' r' hr' _=>(by rw [e] at hr'; injection hr' with h1 h2 h3; subst h1 h2 h3; exact hat),?_,hsum 0 (by omega)⟩
     refine C.put hih hlt (by simp) (fun x hx=>Array.getElem?_setIfInBounds_ne (Ne.symm hx)) (Array.getElem?_setIfInBounds_self_of_lt hlt) hops (fun _ _=>rfl) (.inl rfl) (by rw [e]; exact .inr ⟨rfl,rfl⟩) (ChanKept.refl w) C.keep C.view C.count C.small C.sema ?_
     exact C.past.appRead (still_shun hE) hM hih hL hops hr (hd T) hl
   | @step n g g' es _ hes hstp hway' =>
     obtain ⟨hops,hr,hl,hd⟩:=evS_ops C.keep (i:=i) (fn:=g.frame.fn) (pos:=g.frame.place) hes
     refine ⟨_,w,_,upd q i n,role,runT_crowd_go (sl:=sl) hi (hstp w C.keep),by simp,harr w (ChanKept.refl w) _ _ h (Ne.symm hih),fun x hx=>harr w (ChanKept.refl w) _ _ x hx,.inl rfl,fun _ _=>rfl,.inl rfl,fun x hx=>upd_ne q n hx,fun c' z' r' _ h0=>(by rw [upd_same] at h0; have:=hway'.status.2; omega),?_,hsum n (by omega)⟩
     refine C.put hih hlt (by simp) (fun x hx=>harr w (ChanKept.refl w) _ _ x hx) (hself w _ _) hops (fun _ _=>rfl) (.inl rfl) (by rw [e]; exact .inl hway') (ChanKept.refl w) C.keep C.view C.count C.small C.sema ?_
     exact C.past.appRead (still_shun hE) hM hih hL hops hr (hd T) hl
end
def RoleLe (role role' : Nat -> Role) : Prop:=∀ x,role' x = role x ∨ role x = .fin /\ role' x = .quit
theorem RoleLe.refl (role : Nat -> Role) : RoleLe role role:=fun _=>.inl rfl
theorem RoleLe.trans {rQ rY r₃ : Nat -> Role} (h : RoleLe rQ rY) (h' : RoleLe rY r₃) : RoleLe rQ r₃:=fun x=>by
 rcases h x with a | ⟨a,b⟩ <;> rcases h' x with a' | ⟨a',b'⟩
 . exact .inl (a'.trans a)
 . exact .inr ⟨a ▸ a',b'⟩
 . exact .inr ⟨a,a'.trans b⟩
 . rw [b] at a'; cases a'
theorem RoleLe.seat {rQ rY : Nat -> Role} (h : RoleLe rQ rY) {x c : Nat} {z : Value} {r : Goroutine} (hx : rQ x = .seat c z r) : rY x = .seat c z r:=by
 rcases h x with a | ⟨a,_⟩
 . rw [a]; exact hx
 . rw [hx] at a; cases a
theorem RoleLe.seat' {rQ rY : Nat -> Role} (h : RoleLe rQ rY) {x c : Nat} {z : Value} {r : Goroutine} (hx : rY x = .seat c z r) : rQ x = .seat c z r:=by
 rcases h x with a | ⟨_,b⟩
 . rw [← a]; exact hx
 . rw [hx] at b; cases b
section
variable {P : Program} {E : Env} {Lst : Nat -> Nat -> Goroutine -> Prop} {role : Nat -> Role} {h dh pend : Nat} {V : World} {T : Trace} {gs : Array Goroutine} {w : World} {q : Nat -> Nat}
theorem RoleLe.of {role' : Nat -> Role} {i : Nat} (h1 : ∀ x,x ≠ i -> role' x = role x) (h2 : role' i = role i ∨ role i = .fin /\ role' i = .quit) : RoleLe role role':=fun x=>by
 by_cases e : x = i
 . subst e; exact h2
 . exact .inl (h1 x e)
theorem Rg.picked (hE : EnvOk E) {a : Goroutine} {sl : Option (Nat × Nat)} (ha : gs[h]? = some a) (hrun : a.status = .running) (C : Rg P E Lst role h dh pend V T gs w q) :
   ∃ (N : Nat) (gs' : Array Goroutine) (w' : World) (d' : Nat) (sl' sl'' : Option (Nat × Nat)) (T' : Trace) (q' : Nat -> Nat) (role' : Nat -> Role),runNT P N (crowd gs w sl) T = (.next (crowd gs' w' sl'),T') /\
     stepT P (crowd gs' w' sl') = runT P (crowd gs' (w'.at d') sl'') h /\ gs'.size = gs.size /\ gs'[h]? = some a /\ RoleLe role role' /\ Rg P E Lst role' h dh pend V T' gs' (w'.at d') q' /\ Kin w w':=by
 obtain ⟨N,m',T',hr,gs',w',d',sl',sl'',q',role',rfl,hst,hsz,ha',hle,C',kn⟩:=runs_until (P:=P)
   (Inv:=fun μ m t=>∃ gsQ wY slQ qQ roleQ,m = crowd gsQ wY slQ /\ gsQ.size = gs.size /\ gsQ[h]? = some a /\ RoleLe role roleQ /\ Rg P E Lst roleQ h dh pend V t gsQ wY qQ /\ Kin w wY /\ μ = sumTo gsQ.size qQ)
   (Done:=fun m t=>∃ gsQ wY d' slQ slY qQ roleQ,m = crowd gsQ wY slQ /\ stepT P (crowd gsQ wY slQ) = runT P (crowd gsQ (wY.at d') slY) h /\ gsQ.size = gs.size /\ gsQ[h]? = some a /\ RoleLe role roleQ /\ Rg P E Lst roleQ h dh pend V t gsQ (wY.at d') qQ /\ Kin w wY)
   (fun μ m t ⟨gsQ,wY,slQ,qQ,roleQ,hm,hsz,haQ,hle,CQ,kn,hμ⟩=>by
     subst hm
     obtain ⟨i,g,d',sl',hi,hg,hst⟩:=crowd_pick (P:=P) (w:=wY) (sl:=slQ) (CQ.awake haQ (.inl hrun)) ⟨h,a,haQ,hrun⟩
     by_cases e : i = h
     . subst e
       exact .inl ⟨gsQ,wY,d',slQ,sl',qQ,roleQ,rfl,hst,hsz,haQ,hle,CQ.at d',kn⟩
     . obtain ⟨gs',w',ops,q',role',hrt,hsz',hh,_,hww,hr1,hr2,_,_,C',hlt⟩:=(CQ.at d').by_step (sl:=sl') hE hi e hg
         (fun gx hgx w' _=>by rw [haQ] at hgx; obtain rfl:=Option.some.inj hgx; exact again_of_running (.inl hrun) _)
         (fun _ _ _ _ _ gx hgx=>by rw [haQ] at hgx; obtain rfl:=Option.some.inj hgx; exact offersAt_of_not_blocked (by rw [hrun]; simp) _ _)
       exact .inr ⟨_,_,sumTo gs'.size q',by rw [hst]; exact hrt,by rw [hsz']; omega,gs',w',sl',q',role',rfl,hsz'.trans hsz,hh.trans haQ,hle.trans (RoleLe.of hr1 hr2),C',kn.trans (Kin.ofAt (Kin.step hww)),rfl⟩)
   _ _ T ⟨gs,w,sl,q,role,rfl,rfl,ha,RoleLe.refl _,C,Kin.refl _,rfl⟩
 exact ⟨N,gs',w',d',sl',sl'',T',q',role',hr,hst,hsz,ha',hle,C',kn⟩
theorem evZ_ops (hE : EnvOk E) {n : Nat} {i : Nat} {fn : FuncId} {pos : String} {es : Array Event} (he : ∀ e ∈ es,EvZ E.Z n e) :
   (∀ op ∈ MemOp.ofEvents i fn pos es,op.g = i) /\ (∀ op ∈ MemOp.ofEvents i fn pos es,∀ b,op.act.touch? = some b -> (E.still b.loc -> b.write = false) /\ (E.shun b.loc -> b.kind ≠ .plain)) /\ (∀ op ∈ MemOp.ofEvents i fn pos es,op.act.low n) /\ ∀ t : Trace,Deaf (t ++ MemOp.ofEvents i fn pos es) i = Deaf t i:=by
 refine ⟨fun op hop=>by obtain ⟨e,_,rfl⟩:=Go.Conc.mem_ofEvents hop; rfl,fun op hop b hb=>?_,fun op hop=>?_,fun t=>?_⟩
 . obtain ⟨e,hm,rfl⟩:=Go.Conc.mem_ofEvents hop
   have hz:=he e hm
   obtain ⟨loc,wr,sy⟩:=e
   cases loc with
   | cell a =>
     simp only [MemAct.ofEvent,MemAct.touch?,Option.some.injEq] at hb
     subst hb
     refine ⟨fun ⟨a',e',hs⟩=>?_,fun ⟨a',k,lo,hi,e',hz',hk⟩=>?_⟩
     . obtain rfl : a = a':=by simpa using e'
       obtain ⟨v,hv⟩:=Option.isSome_iff_exists.1 hs
       obtain ⟨_,k,lo,hi,hz',h1,h2,h3⟩:=hE.kc a v hv
       have:=(hz.2 k lo hi hz').2
       cases wr with
       | false=>rfl
       | true=>exact absurd ⟨h1,h2⟩ (this rfl)
     . obtain rfl : a = a':=by simpa using e'
       have:=(hz.2 k lo hi hz').1
       omega
   | obj r =>
     have hl : b.loc = .obj r:=by
       cases wr <;> cases sy <;> simp [MemAct.ofEvent,MemAct.touch?] at hb <;> subst hb <;> rfl
     exact ⟨fun ⟨a',e',_⟩=>(by rw [hl] at e'; cases e'),fun ⟨a',_,_,_,e',_⟩=>(by rw [hl] at e'; cases e')⟩
   | mark m=>cases m <;> first | exact hz.elim | (simp [MemAct.ofEvent,MemAct.touch?] at hb)
   | _=>exact hz.elim
 . obtain ⟨e,hm,rfl⟩:=Go.Conc.mem_ofEvents hop
   have hz:=he e hm
   obtain ⟨loc,wr,sy⟩:=e
   cases loc with
   | cell a=>exact hz.1
   | obj r=>cases wr <;> cases sy <;> exact hz.1
   | mark m=>cases m <;> first | exact hz.elim | trivial
   | _=>exact hz.elim
 . rw [Deaf_own]
   exact deafBehind_still (fun e hm=>by
     have hz:=he e hm
     obtain ⟨loc,wr,sy⟩:=e
     cases loc with
     | mark m=>cases m <;> first | exact hz.elim | exact ⟨by simp,by simp⟩
     | _=>exact ⟨by simp,by simp⟩) _
theorem hidden_cell {Z : Cuts} {w w' : World} (hH : Hidden Z w w') {a : Addr} {v : Value} {k lo hi : Nat} (hz : Z a.block = some (k,lo,hi)) (ho : k <= a.off ∨ lo <= a.off /\ a.off < hi) (h : w.cell? a = some v) : w'.cell? a = some v:=by
 unfold World.cell? at *
 cases hh : w.heap[a.block]? with
 | none=>rw [hh] at h; simp at h
 | some o =>
   rw [hh] at h
   cases o with
   | cells c e f =>
     obtain ⟨c',h1,h2,h3⟩:=hH.cells a.block k lo hi c e f hz hh
     rw [h1]
     by_cases hs : a.spot.isSome
     . simp [hs] at h
     . simp only [hs,if_false,Bool.false_eq_true] at h ⊢
       rw [h3 _ ho]; exact h
   | _=>simp at h
theorem Rg.own (hE : EnvOk E) (C : Rg P E Lst role h dh pend V T gs w q) {a a' : Goroutine} {w' : World} {es : Array Event} (ha : gs[h]? = some a) (hH : Hidden E.Z w w') (hf : Fit P E.Z w') (he : ∀ e ∈ es,EvZ E.Z w'.heap.size e) :
   Rg P E Lst role h dh pend (pz E.Z w') (T ++ MemOp.ofEvents h a.frame.fn a.frame.place es) ((gs.map (woken P a a' w')).setIfInBounds h a') w' q /\ ((gs.map (woken P a a' w')).setIfInBounds h a')[h]? = some a':=by
 have hlt : h < gs.size:=(Array.getElem?_eq_some_iff.1 ha).1
 obtain ⟨hops,hs,hl,hdf⟩:=evZ_ops hE (i:=h) (fn:=a.frame.fn) (pos:=a.frame.place) he
 have hch : ∀ i c z r,role i = .seat c z r -> ∃ k,w'.heap[c]? = some (.chan 0 #[] false k k false):=fun i c z r hr=>by
   obtain ⟨k,hk⟩:=C.chans i c z r hr
   obtain ⟨lo,hi,hz⟩:=C.zc i c z r hr
   exact ⟨k,hH.chan c _ _ hz hk (by simp)⟩
 have hfix : ∀ x y,x ≠ h -> gs[x]? = some y -> y.again w' = y:=fun x y hx hy=>by
   have hi:=C.idle x y hx hy
   cases e : role x with
   | quit=>rw [e] at hi; exact again_running w' hi.2.status
   | fin=>rw [e] at hi; exact again_running w' (.inl hi.2.status.1)
   | seat c z r =>
     rw [e] at hi
     rcases hi with h1 | ⟨_,rfl⟩
     . exact again_running w' (.inl h1.status.1)
     . obtain ⟨k,hc⟩:=hch x c z r e
       refine again_all_open fun cc hcc=>?_
       simp only [List.mem_toArray,List.mem_cons,List.not_mem_nil,or_false] at hcc
       exact ⟨c,z,_,_,_,_,_,hcc,hc⟩
 refine ⟨⟨fun x y hx hy=>?_,fun c lo hi hz=>let ⟨k,hk⟩:=C.rest c lo hi hz; ⟨k,hH.chan c _ _ hz hk (by simp)⟩,C.zc,C.inj,C.holder,fun j hj=>?_,?_,⟨hf,fun b v hb=>?_⟩,rfl,?_,?_,?_⟩,Array.getElem?_setIfInBounds_self_of_lt (by simpa using hlt)⟩
 . rw [Array.getElem?_setIfInBounds_ne (fun e=>hx e.symm),Array.getElem?_map] at hy
   obtain ⟨yQ,hyQ,rfl⟩:=Option.map_eq_some_iff.1 hy
   rw [woken_of_again (hfix x yQ hx hyQ)]
   have hi:=C.idle x yQ hx hyQ
   have hD : Deaf (T ++ MemOp.ofEvents h a.frame.fn a.frame.place es) x = Deaf T x:=Deaf_other T (fun z=>hx z.symm) _ hops
   cases es' : role x with
   | quit=>rw [es'] at hi; exact ⟨hi.1,by rw [hD]; exact hi.2⟩
   | fin=>rw [es'] at hi; exact ⟨hi.1,by rw [hD]; exact hi.2⟩
   | seat c z r=>rw [es'] at hi; exact hi
 . simp only [Array.size_setIfInBounds,Array.size_map] at hj
   rw [Deaf_other T (g':=h) (by omega) _ hops]
   exact C.above j hj
 . exact (C.past.mono hH.size).appH hops hs ((hdf T).trans C.past.deafh) hl
 . obtain ⟨_,k,lo,hi,hz,h1,h2,h3⟩:=hE.kc b v hb
   exact hidden_cell hH hz (.inr ⟨h1,h2⟩) (C.keep.2 b v hb)
 . obtain ⟨_,k,lo,hi,hz,h1,h2⟩:=hE.st
   simp only [Array.size_setIfInBounds,Array.size_map]
   exact hidden_cell hH hz (.inl h1) C.count
 . simp only [Array.size_setIfInBounds,Array.size_map]
   exact C.small
 . obtain ⟨_,_,_,k,lo,hi,hz,h1,h2⟩:=hE.sm
   exact hidden_cell hH hz (.inl h1) C.sema
theorem Rg.walk (hE : EnvOk E) {Stop : Goroutine -> World -> Prop} {a : Goroutine} (hW : Will P (h == 0) E.Z Stop a V) :
   ∀ {T : Trace} {gs : Array Goroutine} {w : World} {q : Nat -> Nat} {role : Nat -> Role} {sl : Option (Nat × Nat)},gs[h]? = some a -> Rg P E Lst role h dh pend V T gs w q ->
   ∃ (N : Nat) (gs' : Array Goroutine) (a' : Goroutine) (w' V' : World) (sl' : Option (Nat × Nat)) (T' : Trace) (q' : Nat -> Nat) (role' : Nat -> Role),
     runNT P N (crowd gs w sl) T = (.next (crowd gs' w' sl'),T') /\ gs'.size = gs.size /\ gs'[h]? = some a' /\ Stop a' V' /\ RoleLe role role' /\ Rg P E Lst role' h dh pend V' T' gs' w' q' /\ Kin w w':=by
 induction hW with
 | @stop g V hs =>
   intro T gs w q role sl ha C
   exact ⟨0,gs,g,w,V,sl,T,q,role,rfl,rfl,ha,hs,RoleLe.refl _,C,Kin.refl _⟩
 | @step g V hr h1 h2 ih =>
   intro T gs w q role sl ha C
   obtain ⟨N,gsQ,wY,d',slQ,slY,TQ,qQ,roleQ,hrn,hst,hsz,haQ,hle,CQ,kn⟩:=C.picked (sl:=sl) hE ha hr
   obtain ⟨g',w',es,hgo,hH,hf,he⟩:=h1 (wY.at d') CQ.view CQ.keep.1
   have hrt:=runT_crowd_go (P:=P) (sl:=slY) haQ hgo
   obtain ⟨CY,haY⟩:=CQ.own hE (a':=g') haQ hH hf he
   obtain ⟨N',gs',a',w'',V',sl',T',q',role',hrn',hsz',ha',hS,hle',C',kn'⟩:=ih (wY.at d') g' w' es CQ.view CQ.keep.1 hgo (sl:=slY) haY CY
   exact ⟨N + 1 + N',gs',a',w'',V',sl',T',q',role',runNT_then (runNT_succ_of hrn (hst.trans hrt)) hrn',hsz'.trans (by simpa using hsz),ha',hS,hle.trans hle',C',(kn.trans (Kin.ofAt (Kin.hid hH))).trans kn'⟩
end
end Go.Proofs.Ytibcdikfbhmheaa
