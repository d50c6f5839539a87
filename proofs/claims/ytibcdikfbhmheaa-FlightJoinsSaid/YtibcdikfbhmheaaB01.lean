import Derived.WalkKit
import Derived.Conc.Token
set_option linter.unusedSimpArgs false
set_option linter.unusedVariables false
namespace Go.Proofs.Ytibcdikfbhmheaa
open Go
theorem arrg {n : Nat} (T : Array Value) (h : T.size = n) : ∃ f : Nat -> Value,(∀ i v,T[i]? = some v -> f i = v) /\ T = ((List.range n).map f).toArray:=by
 refine ⟨fun i=>T.getD i undef,fun i v hv=>by simp [Array.getD_eq_getD_getElem?,hv],?_⟩
 generalize hf : (fun i=>T.getD i undef) = f
 have e : T.toList = (List.range n).map f:=by
   apply List.ext_getElem?
   intro i
   rw [List.getElem?_map,Array.getElem?_toList]
   by_cases hi : i < n
   . rw [List.getElem?_range hi,Option.map_some,← hf]
     simp [Array.getD_eq_getD_getElem?,Array.getElem?_eq_getElem (show i < T.size by omega)]
   . rw [List.getElem?_eq_none (by simp; omega),Array.getElem?_eq_none (by omega)]
     rfl
 rw [← Array.toArray_toList (xs:=T),e]
structure Hd (B : Prop) : Prop where
 h : B
def tBad : TypeId:=1000000
abbrev Cuts:=Nat -> Option (Nat × Nat × Nat)
def pobj : Option (Nat × Nat × Nat) -> Obj -> Obj
 | none,.view a _=>.view a tBad
 | none,o=>o
 | some (k,lo,hi),.cells c e _=>.cells (c.extract 0 k) e (lo,hi)
 | some _,_=>.cells #[] tBad (0,0)
def pz (Z : Cuts) (w : World) : World:={ heap:=w.heap.mapIdx fun b o=>pobj (Z b) o,tape:=fun _ _=>0,drawn:=0,os:=w.os,output:=w.output }
def re (V : World) (τ : Nat -> Question -> Nat) (d : Nat) : World:={ V with tape:=τ,drawn:=d }
def norm (W : World) : World:={ W with tape:=fun _ _=>0,drawn:=0 }
structure Fit (P : Program) (Z : Cuts) (w : World) : Prop where
 cut : ∀ b s,Z b = some s -> P.globals.size <= b /\ ∃ o,w.heap[b]? = some o /\ ((∃ c e,o = .cells c e (0,0)) ∨ ∃ cap buf cl s r tm,o = .chan cap buf cl s r tm)
 rows : ∀ b k lo hi,Z b = some (k + 1,lo,hi) -> ∃ c e f,w.heap[b]? = some (.cells c e f)
 chans : ∀ b lo hi,Z b = some (0,lo,hi) -> ∃ cap buf cl s r tm,w.heap[b]? = some (.chan cap buf cl s r tm)
 glob : ∀ b,b < P.globals.size -> ∃ c e f,w.heap[b]? = some (.cells c e f)
 bad : P.info? tBad = none
structure Hidden (Z : Cuts) (w w' : World) : Prop where
 chan : ∀ b s o,Z b = some s -> w.heap[b]? = some o -> (∀ c e f,o ≠ .cells c e f) -> w'.heap[b]? = some o
 cells : ∀ b k lo hi c e f,Z b = some (k,lo,hi) -> w.heap[b]? = some (.cells c e f) -> ∃ c',w'.heap[b]? = some (.cells c' e f) /\ c'.size = c.size /\ ∀ i,(k <= i ∨ (lo <= i /\ i < hi)) -> c'[i]? = c[i]?
 size : w.heap.size <= w'.heap.size
 tape : w'.tape = w.tape
 view : ∀ (b : Nat) (a : Addr) (u : TypeId),w'.heap[b]? = some (Obj.view a u) -> w.heap[b]? = some (Obj.view a u)
 os : w'.os = w.os
 output : w'.output = w.output
def EvZ (Z : Cuts) (n : Nat) (e : Event) : Prop :=
 match e.loc with
 | .cell a=>a.block < n /\ ∀ k lo hi,Z a.block = some (k,lo,hi) -> a.off < k /\ (e.write = true -> ¬ (lo <= a.off /\ a.off < hi))
 | .obj r=>r < n /\ (Z r = none ∨ e.write = false)
 | .mark .noRoom=>True
 | .mark (.extern _)=>True
 | _=>False
def Ag (w W W' : World) : Prop:=∀ j,W.drawn + j < W'.drawn -> ∀ q,w.tape (w.drawn + j) q = W.tape (W.drawn + j) q
structure Out (P : Program) (Z : Cuts) (w W W' w' : World) (es es' : Array Event) : Prop where
 rl : norm W' = pz Z w'
 fit : Fit P Z w'
 hid : Hidden Z w w'
 drawn : w'.drawn + W.drawn = w.drawn + W'.drawn
 evs : ∃ u,es' = es ++ u /\ ∀ e ∈ u,EvZ Z w'.heap.size e
def SimOut {α : Type} (P : Program) (Z : Cuts) (A : α -> Prop) (s : Sem α) (W w : World) (es : Array Event) : Result α -> Prop
 | .ok a W'=>A a /\ W.drawn <= W'.drawn /\ W'.tape = W.tape /\ (Ag w W W' -> ∃ w' es',s.runT P w es = (.ok a w',es') /\ Out P Z w W W' w' es es')
 | .halt (.panic v) W'=>W.drawn <= W'.drawn /\ W'.tape = W.tape /\ (Ag w W W' -> ∃ w' es',s.runT P w es = (.halt (.panic v) w',es') /\ Out P Z w W W' w' es es')
 | .halt (.unsupported (.initOrder g)) _=>P.globals.size <= g
 | .halt (.unsupported _) _=>True
 | .halt (.stuck _) _=>True
 | .halt _ _=>False
def SimOk {α : Type} (P : Program) (Z : Cuts) (A : α -> Prop) (s : Sem α) : Prop :=
 ∀ (W w : World) (es : Array Event),norm W = pz Z w -> Fit P Z w -> SimOut P Z A s W w es (s.run P W)
section
variable {P : Program} {Z : Cuts}
theorem heap_of_norm {W w : World} (h : norm W = pz Z w) (b : Nat) : W.heap[b]? = (w.heap[b]?).map (pobj (Z b)):=by
 have e : (norm W).heap = (pz Z w).heap:=congrArg World.heap h
 replace e : W.heap = (pz Z w).heap:=e
 rw [e]
 simp [pz,Array.getElem?_mapIdx]
theorem size_of_norm {W w : World} (h : norm W = pz Z w) : W.heap.size = w.heap.size:=by
 have e : (norm W).heap = (pz Z w).heap:=congrArg World.heap h
 replace e : W.heap = (pz Z w).heap:=e
 rw [e]
 simp [pz]
theorem Hidden.refl (w : World) : Hidden Z w w:=⟨fun _ _ _ _ h _=>h,fun _ _ _ _ c _ _ _ h=>⟨c,h,rfl,fun _ _=>rfl⟩,Nat.le_refl _,rfl,fun _ _ _ h=>h,rfl,rfl⟩
theorem Hidden.trans {w wY wX : World} (h : Hidden Z w wY) (h' : Hidden Z wY wX) : Hidden Z w wX:=by
 refine ⟨fun b s o hs ho hn=>h'.chan b s o hs (h.chan b s o hs ho hn) hn,fun b k lo hi c e f hs ho=>?_,Nat.le_trans h.size h'.size,h'.tape.trans h.tape,fun b a u hv=>h.view b a u (h'.view b a u hv),h'.os.trans h.os,h'.output.trans h.output⟩
 obtain ⟨c1,h1,s1,e1⟩:=h.cells b k lo hi c e f hs ho
 obtain ⟨c2,h2,s2,e2⟩:=h'.cells b k lo hi c1 e f hs h1
 exact ⟨c2,h2,s2.trans s1,fun i hi'=>(e2 i hi').trans (e1 i hi')⟩
theorem EvZ.mono {n n' : Nat} {e : Event} (hn : n <= n') (h : EvZ Z n e) : EvZ Z n' e:=by
 unfold EvZ at *
 split at h
 . exact ⟨by omega,h.2⟩
 . exact ⟨by omega,h.2⟩
 . trivial
 . trivial
 . exact h.elim
theorem norm_eq (W W' : World) (h1 : W.heap = W'.heap) (h2 : W.os = W'.os) (h3 : W.output = W'.output) : norm W = norm W':=by
 cases W; cases W'; simp_all [norm]
theorem Out.id {w W : World} (hn : norm W = pz Z w) (hf : Fit P Z w) (es : Array Event) : Out P Z w W W w es es :=
 ⟨hn,hf,Hidden.refl w,rfl,#[],by simp,by simp⟩
theorem Ag.left {w W WQ WY : World} (h : Ag w W WY) (hd : WQ.drawn <= WY.drawn) : Ag w W WQ:=fun j hj=>h j (by omega)
theorem Out.trans {w W WQ WY wY wX : World} {es esQ esY : Array Event} (h : Out P Z w W WQ wY es esQ) (h' : Out P Z wY WQ WY wX esQ esY) : Out P Z w W WY wX es esY:=by
 refine ⟨h'.rl,h'.fit,h.hid.trans h'.hid,by have:=h.drawn; have:=h'.drawn; omega,?_⟩
 obtain ⟨u,rfl,hu⟩:=h.evs
 obtain ⟨u',rfl,hu'⟩:=h'.evs
 refine ⟨u ++ u',by simp,fun e he=>?_⟩
 rcases Array.mem_append.1 he with he | he
 . exact (hu e he).mono h'.hid.size
 . exact hu' e he
theorem Ag.right {w W WQ WY wY : World} (h : Ag w W WY) (hd : W.drawn <= WQ.drawn) (ht : WQ.tape = W.tape) (hw : wY.tape = w.tape) (hdr : wY.drawn + W.drawn = w.drawn + WQ.drawn) : Ag wY WQ WY:=by
 intro j hj q
 have:=h (WQ.drawn - W.drawn + j) (by omega) q
 rw [hw,ht]
 rw [show wY.drawn + j = w.drawn + (WQ.drawn - W.drawn + j) by omega,show WQ.drawn + j = W.drawn + (WQ.drawn - W.drawn + j) by omega]
 exact this
theorem sim_pure {α : Type} {A : α -> Prop} {a : α} (h : A a) : SimOk P Z A (pure a):=fun W w es hn hf=>by
 show SimOut P Z A (Sem.pure a) W w es (.ok a W)
 exact ⟨h,Nat.le_refl _,rfl,fun _=>⟨w,es,rfl,Out.id hn hf es⟩⟩
theorem sim_stuck {α : Type} {A : α -> Prop} {s : String} : SimOk P Z A (stuck s : Sem α):=fun W w es hn hf=>trivial
theorem sim_unsupported {α : Type} {A : α -> Prop} {u : Unsupported} (h : ∀ g,u ≠ .initOrder g) : SimOk P Z A (unsupported u : Sem α):=fun W w es hn hf=>by
 show SimOut P Z A _ W w es (.halt (.unsupported u) W)
 cases u <;> first | exact trivial | exact absurd rfl (h _)
theorem sim_panic {α : Type} {A : α -> Prop} {v : Value} : SimOk P Z A (goPanic v : Sem α):=fun W w es hn hf=>by
 show SimOut P Z A _ W w es (.halt (.panic v) W)
 exact ⟨Nat.le_refl _,rfl,fun _=>⟨w,es,rfl,Out.id hn hf es⟩⟩
theorem pz_re (w : World) (τ : Nat -> Question -> Nat) (d : Nat) : pz Z (re w τ d) = pz Z w:=rfl
theorem Fit.re {w : World} (h : Fit P Z w) (τ : Nat -> Question -> Nat) (d : Nat) : Fit P Z (re w τ d):=⟨h.cut,h.rows,h.chans,h.glob,h.bad⟩
theorem Ag.self (w W W' : World) : Ag (Go.Proofs.Ytibcdikfbhmheaa.re w W.tape W.drawn) W W':=fun _ _ _=>rfl
theorem runT_bind_ok {α β : Type} {s : Sem α} {f : α -> Sem β} {w w' : World} {es es' : Array Event} {a : α} (h : s.runT P w es = (.ok a w',es')) : (s >>= f).runT P w es = (f a).runT P w' es':=by
 show (s.bind f).runT P w es = _
 rw [Go.Sem.runT_bind',h]
theorem runT_bind_halt {α β : Type} {s : Sem α} {f : α -> Sem β} {w w' : World} {es es' : Array Event} {x : Halt} (h : s.runT P w es = (.halt x w',es')) : (s >>= f).runT P w es = (.halt x w',es'):=by
 show (s.bind f).runT P w es = _
 rw [Go.Sem.runT_bind',h]
theorem sim_bind_at {α β : Type} {A : α -> Prop} {B : β -> Prop} {s : Sem α} {f : α -> Sem β} {W w : World} {es : Array Event} (hn : norm W = pz Z w) (hf : Fit P Z w) (h1 : SimOut P Z A s W w es (s.run P W)) (h0 : SimOut P Z A s W (Go.Proofs.Ytibcdikfbhmheaa.re w W.tape W.drawn) es (s.run P W)) (hfn : ∀ a,A a -> SimOk P Z B (f a)) : SimOut P Z B (s >>= f) W w es ((s >>= f).run P W):=by
 have hbW : (s >>= f).run P W = match s.run P W with | .ok a W'=>(f a).run P W' | .halt h W'=>.halt h W':=by
   show (s.bind f).run P W = _
   rw [← Sem.runT_fst P (s.bind f) W #[],Go.Sem.runT_bind' P s f W #[]]
   simp only [Sem.runT_eq]
   cases s.run P W <;> simp
 rw [hbW]
 cases hr : s.run P W with
 | ok a WQ =>
   rw [hr] at h1 h0
   obtain ⟨ha,hd1,ht1,hk1⟩:=h1
   obtain ⟨_,_,_,hk0⟩:=h0
   obtain ⟨w0,es0,_,o0⟩:=hk0 (Ag.self _ _ _)
   have hg0:=hfn a ha WQ w0 es0 o0.rl o0.fit
   show SimOut P Z B (s >>= f) W w es ((f a).run P WQ)
   cases hr2 : (f a).run P WQ with
   | ok b WY =>
     rw [hr2] at hg0
     obtain ⟨hb,hd2,ht2,_⟩:=hg0
     refine ⟨hb,Nat.le_trans hd1 hd2,ht2.trans ht1,fun hag=>?_⟩
     obtain ⟨wY,esQ,e1,o1⟩:=hk1 (hag.left hd2)
     have hg:=hfn a ha WQ wY esQ o1.rl o1.fit
     rw [hr2] at hg
     obtain ⟨wX,esY,e2,o2⟩:=hg.2.2.2 (hag.right hd1 ht1 o1.hid.tape o1.drawn)
     exact ⟨wX,esY,(runT_bind_ok e1).trans e2,o1.trans o2⟩
   | halt x WY =>
     rw [hr2] at hg0
     cases x with
     | panic v =>
       obtain ⟨hd2,ht2,_⟩:=hg0
       refine ⟨Nat.le_trans hd1 hd2,ht2.trans ht1,fun hag=>?_⟩
       obtain ⟨wY,esQ,e1,o1⟩:=hk1 (hag.left hd2)
       have hg:=hfn a ha WQ wY esQ o1.rl o1.fit
       rw [hr2] at hg
       obtain ⟨wX,esY,e2,o2⟩:=hg.2.2 (hag.right hd1 ht1 o1.hid.tape o1.drawn)
       exact ⟨wX,esY,(runT_bind_ok e1).trans e2,o1.trans o2⟩
     | unsupported u=>cases u <;> first | exact trivial | exact hg0
     | stuck m=>trivial
     | _=>exact hg0.elim
 | halt x WQ =>
   rw [hr] at h1
   cases x with
   | panic v =>
     obtain ⟨hd1,ht1,hk1⟩:=h1
     refine ⟨hd1,ht1,fun hag=>?_⟩
     obtain ⟨wY,esQ,e1,o1⟩:=hk1 hag
     exact ⟨wY,esQ,runT_bind_halt e1,o1⟩
   | unsupported u=>cases u <;> first | exact trivial | exact h1
   | stuck m=>trivial
   | _=>exact h1.elim
theorem sim_bind {α β : Type} {A : α -> Prop} {B : β -> Prop} {s : Sem α} {f : α -> Sem β} (hs : SimOk P Z A s) (hfn : ∀ a,A a -> SimOk P Z B (f a)) : SimOk P Z B (s >>= f):=fun W w es hn hf =>
 sim_bind_at hn hf (hs W w es hn hf) (hs W (Go.Proofs.Ytibcdikfbhmheaa.re w W.tape W.drawn) es hn (hf.re _ _)) hfn
theorem sim_mono {α : Type} {A B : α -> Prop} {s : Sem α} (h : SimOk P Z A s) (hab : ∀ a,A a -> B a) : SimOk P Z B s:=fun W w es hn hf=>by
 have h1:=h W w es hn hf
 cases hr : s.run P W with
 | ok a WQ=>rw [hr] at h1; exact ⟨hab a h1.1,h1.2⟩
 | halt x WQ =>
   rw [hr] at h1
   cases x with
   | panic v=>exact h1
   | unsupported u=>cases u <;> first | exact trivial | exact h1
   | stuck m=>trivial
   | _=>exact h1.elim
theorem sim_ite {α : Type} {A : α -> Prop} {c : Prop} [Decidable c] {s t : Sem α} (h1 : c -> SimOk P Z A s) (h2 : ¬ c -> SimOk P Z A t) : SimOk P Z A (if c then s else t):=by
 by_cases h : c
 . rw [if_pos h]; exact h1 h
 . rw [if_neg h]; exact h2 h
theorem sim_program {α : Type} {A : α -> Prop} {k : Program -> Sem α} (h : SimOk P Z A (k P)) : SimOk P Z A (Go.program >>= k):=fun W w es hn hf=>by
 have:=h W w es hn hf
 exact this
theorem sim_choose {α : Type} {A : α -> Prop} {q : Question} {k : Nat -> Sem α} (h : ∀ n,SimOk P Z A (k n)) : SimOk P Z A (choose q >>= k):=by
 refine sim_bind (A:=fun _=>True) (fun W w es hn hf=>?_) (fun n _=>h n)
 show SimOut P Z _ (.choose q .pure) W w es (Sem.run P (.choose q .pure) W)
 by_cases hq : q.forced = true
 . simp only [Sem.run,hq,if_true]
   exact ⟨trivial,Nat.le_refl _,rfl,fun _=>⟨w,es,by simp only [Sem.runT,hq,if_true],Out.id hn hf es⟩⟩
 . simp only [Sem.run,hq,if_false,Bool.false_eq_true]
   refine ⟨trivial,Nat.le_succ _,rfl,fun hag=>⟨{ w with drawn:=w.drawn + 1 },es,?_,⟨hn,⟨hf.cut,hf.rows,hf.chans,hf.glob,hf.bad⟩,⟨fun _ _ _ _ h _=>h,fun _ _ _ _ c _ _ _ h=>⟨c,h,rfl,fun _ _=>rfl⟩,Nat.le_refl _,rfl,fun _ _ _ h=>h,rfl,rfl⟩,by show w.drawn + 1 + W.drawn = w.drawn + (W.drawn + 1); omega,#[],by simp,by simp⟩⟩⟩
   have e:=hag 0 (show W.drawn + 0 < W.drawn + 1 by omega) q
   simp only [Nat.add_zero] at e
   simp only [Sem.runT,hq,if_false,Bool.false_eq_true,e]
theorem cell_of_norm {W w : World} {a : Addr} {v : Value} (h : norm W = pz Z w) (hc : W.cell? a = some v) :
   w.cell? a = some v /\ a.block < w.heap.size /\ a.spot = none /\ (∃ c e f,w.heap[a.block]? = some (.cells c e f) /\ a.off < c.size) /\ ∀ k lo hi,Z a.block = some (k,lo,hi) -> a.off < k:=by
 have hb:=heap_of_norm h a.block
 unfold World.cell? at hc ⊢
 rw [hb] at hc
 cases ho : w.heap[a.block]? with
 | none=>rw [ho] at hc; simp at hc
 | some o =>
   rw [ho] at hc
   have hlt : a.block < w.heap.size:=(Array.getElem?_eq_some_iff.1 ho).1
   simp only [Option.map_some] at hc
   by_cases hsp : a.spot.isSome
   . cases hz : pobj (Z a.block) o <;> rw [hz] at hc <;> simp [hsp] at hc
   have hsp' : a.spot = none:=by cases h' : a.spot <;> simp [h'] at hsp ⊢
   cases hZ : Z a.block with
   | none =>
     rw [hZ] at hc
     cases o <;> simp [pobj,hsp] at hc
     rename_i c e f
     exact ⟨by simp [hsp,hc],hlt,hsp',⟨c,e,f,rfl,(Array.getElem?_eq_some_iff.1 hc).1⟩,fun _ _ _ x=>by cases x⟩
   | some s =>
     obtain ⟨k,lo,hi⟩:=s
     rw [hZ] at hc
     cases o with
     | cells c e f =>
       simp only [pobj,hsp,if_false,Bool.false_eq_true,Array.getElem?_extract,Nat.sub_zero,Nat.zero_add] at hc
       split at hc
       . rename_i hlt2
         refine ⟨by simp [hsp,hc],hlt,hsp',⟨c,e,f,rfl,(Array.getElem?_eq_some_iff.1 hc).1⟩,fun k' lo' hi' x=>?_⟩
         obtain ⟨rfl,_⟩:=Prod.mk.inj (Option.some.inj x)
         omega
       . cases hc
     | _=>simp [pobj,hsp] at hc
theorem pobj_none {o : Obj} (h : ∀ a u,o ≠ .view a u) : pobj none o = o:=by cases o <;> first | rfl | exact absurd rfl (h _ _)
theorem obj_of_norm' {W w : World} (h : norm W = pz Z w) {r : Nat} {o : Obj} (ho : W.heap[r]? = some o) (hn : ∀ c e f,o ≠ .cells c e f) : ∃ x,w.heap[r]? = some x /\ (∀ c e f,x ≠ .cells c e f) /\ Z r = none /\ r < w.heap.size /\ o = pobj none x:=by
 rw [heap_of_norm h r] at ho
 obtain ⟨x,hx,rfl⟩:=Option.map_eq_some_iff.1 ho
 have hlt:=(Array.getElem?_eq_some_iff.1 hx).1
 cases hZ : Z r with
 | none =>
   rw [hZ] at hn
   refine ⟨x,hx,fun c e f hx'=>?_,rfl,hlt,rfl⟩
   subst hx'
   exact hn _ _ _ rfl
 | some s =>
   obtain ⟨k,lo,hi⟩:=s
   rw [hZ] at hn
   cases x <;> exact absurd rfl (hn _ _ _)
theorem obj_of_norm {W w : World} (h : norm W = pz Z w) {r : Nat} {o : Obj} (ho : W.heap[r]? = some o) (hn : ∀ c e f,o ≠ .cells c e f) (hv : ∀ a u,o ≠ .view a u) : w.heap[r]? = some o /\ Z r = none /\ r < w.heap.size:=by
 obtain ⟨x,h1,h2,h3,h4,rfl⟩:=obj_of_norm' h ho hn
 refine ⟨?_,h3,h4⟩
 cases x with
 | view a u=>exact absurd rfl (hv _ _)
 | _=>exact h1
theorem seen_bad (hf : P.info? tBad = none) (W : World) (at_ k : Addr) (atomic : Bool) : ∃ m,W.seen P at_ tBad k atomic = .error m:=by
 have hu : P.underlying tBad = none:=by simp [Program.underlying,hf]
 have hp : plainCell P P.depth tBad k.off = none:=by
   cases P.depth with
   | zero=>rfl
   | succ d=>simp [plainCell,hu]
 unfold World.seen
 rw [hp]
 by_cases h1 : (k.spot.isSome || at_.spot.isSome) = true
 . exact ⟨_,by rw [if_pos h1]; rfl⟩
 . exact ⟨_,by rw [if_neg h1]; rfl⟩
theorem viewLoad_bad (hf : P.info? tBad = none) (W : World) (at_ k : Addr) (atomic : Bool) : ∃ m,W.viewLoad P at_ tBad k atomic = .error m:=by
 obtain ⟨m,h⟩:=seen_bad hf W at_ k atomic
 exact ⟨m,by unfold World.viewLoad; rw [h]; rfl⟩
theorem viewStore_bad (hf : P.info? tBad = none) (W : World) (at_ k : Addr) (v : Value) (atomic : Bool) : ∃ m,W.viewStore P at_ tBad k v atomic = .error m:=by
 obtain ⟨m,h⟩:=seen_bad hf W at_ k atomic
 unfold World.viewStore
 by_cases h1 : (!tight P P.depth tBad) = true
 . exact ⟨_,by rw [if_pos h1]; rfl⟩
 . exact ⟨m,by rw [if_neg h1,h]; rfl⟩
theorem noCell_out {α : Type} {A : α -> Prop} {s : Sem α} {W w : World} {es : Array Event} {a : Addr} {what : String} (h : norm W = pz Z w) (hf : Fit P Z w) {x : Option Obj} (hx : W.heap[a.block]? = x) : SimOut P Z A s W w es (.halt (W.noCell a what) W):=by
 unfold World.noCell
 rw [hx]
 cases x with
 | none=>trivial
 | some o =>
   cases o with
   | pending c e =>
     show P.globals.size <= a.block
     obtain ⟨h1,_,_⟩:=obj_of_norm h hx (by simp) (by simp)
     rcases Nat.lt_or_ge a.block P.globals.size with hlt | hge
     . obtain ⟨c',e',f',h2⟩:=hf.glob _ hlt
       rw [h1] at h2; cases h2
     . exact hge
   | _=>trivial
theorem evs_push {Z : Cuts} {n : Nat} {es : Array Event} {e : Event} (h : EvZ Z n e) : ∃ u,es.push e = es ++ u /\ ∀ x ∈ u,EvZ Z n x:=⟨#[e],by simp,fun x hx=>by simp at hx; exact hx ▸ h⟩
theorem sim_load {a : Addr} {m : Mode} : SimOk P Z (fun _=>True) (load a m):=fun W w es hn hf=>by
 show SimOut P Z _ (.load m a .pure) W w es (Sem.run P (.load m a .pure) W)
 simp only [Sem.run]
 cases hc : W.cell? a with
 | some v =>
   obtain ⟨h1,h2,_,_,h3⟩:=cell_of_norm hn hc
   refine ⟨trivial,Nat.le_refl _,rfl,fun _=>⟨w,es.push ⟨.cell a,false,m == .atomic⟩,by simp only [Sem.runT,h1],hn,hf,Hidden.refl w,rfl,evs_push ⟨h2,fun k lo hi hz=>⟨h3 k lo hi hz,fun x=>by cases x⟩⟩⟩⟩
 | none =>
   unfold World.farLoad
   cases ho : W.heap[a.block]? with
   | none=>simp only; exact noCell_out hn hf ho
   | some o =>
     cases o with
     | view at_ u =>
       obtain ⟨x,_,_,_,_,e⟩:=obj_of_norm' hn ho (by simp)
       obtain rfl : u = tBad:=by
         cases x <;> simp [pobj] at e
         exact e.2
       obtain ⟨m',hm⟩:=viewLoad_bad hf.bad W at_ a (m == .atomic)
       simp only [hm]
       trivial
     | _=>simp only; exact noCell_out hn hf ho
theorem pz_heap (w : World) (b : Nat) : (pz Z w).heap[b]? = (w.heap[b]?).map (pobj (Z b)):=heap_of_norm (W:=pz Z w) rfl b
theorem extract_set (c : Array Value) (k off : Nat) (v : Value) (h : off < k) : (c.setIfInBounds off v).extract 0 k = (c.extract 0 k).setIfInBounds off v:=by
 apply Array.ext_getElem?
 intro i
 simp only [Array.getElem?_extract,Array.getElem?_setIfInBounds,Array.size_extract,Nat.sub_zero,Nat.zero_add,Array.size_setIfInBounds]
 by_cases hi : i < min k c.size
 . simp only [hi,if_true]
   by_cases ho : off = i
   . subst ho
     simp only [if_true]
     rw [if_pos (by omega),if_pos (by omega)]
   . simp only [ho,if_false]
 . simp only [hi,if_false]
   by_cases ho : off = i
   . subst ho
     simp [hi]
   . simp only [ho,if_false]
theorem frozen_of_norm {W w : World} {a : Addr} (h : norm W = pz Z w) (hf : Fit P Z w) {c : Array Value} {e : TypeId} {f : Nat × Nat} (hc : w.heap[a.block]? = some (.cells c e f)) (hz : W.frozen? a = false) :
   w.frozen? a = false /\ ∀ k lo hi,Z a.block = some (k,lo,hi) -> ¬ (lo <= a.off /\ a.off < hi):=by
 have hb:=heap_of_norm h a.block
 rw [hc] at hb
 unfold World.frozen? at hz ⊢
 rw [hb] at hz
 rw [hc]
 cases hZ : Z a.block with
 | none=>rw [hZ] at hz; simp only [Option.map_some,pobj] at hz; exact ⟨hz,fun _ _ _ x=>by cases x⟩
 | some s =>
   obtain ⟨k,lo,hi⟩:=s
   rw [hZ] at hz
   simp only [Option.map_some,pobj] at hz
   obtain ⟨_,o,ho,hcell | hch⟩:=hf.cut _ _ hZ
   . obtain ⟨c',e',rfl⟩:=hcell
     rw [hc] at ho
     obtain ⟨rfl,rfl,rfl⟩ : c = c' /\ e = e' /\ f = (0,0):=by simpa using ho
     refine ⟨by simp,fun k' lo' hi' x=>?_⟩
     obtain ⟨_,x⟩:=Prod.mk.inj (Option.some.inj x)
     obtain ⟨rfl,rfl⟩:=Prod.mk.inj x
     simp at hz
     omega
   . obtain ⟨_,_,_,_,_,_,rfl⟩:=hch
     rw [hc] at ho; cases ho
theorem norm_setCell {W w : World} {a : Addr} {v : Value} (h : norm W = pz Z w) (hsp : a.spot = none) (hoff : ∀ k lo hi,Z a.block = some (k,lo,hi) -> a.off < k) : norm (W.setCell a v) = pz Z (w.setCell a v):=by
 have hb:=heap_of_norm h
 have e1 : (norm W).os = (pz Z w).os:=congrArg World.os h
 have e2 : (norm W).output = (pz Z w).output:=congrArg World.output h
 refine norm_eq _ (pz Z (w.setCell a v)) ?_ e1 e2
 apply Array.ext_getElem?
 intro b
 rw [pz_heap]
 simp only [World.setCell,Array.getElem?_modify,hb b]
 by_cases hab : a.block = b
 . subst hab
   simp only [if_true]
   cases ho : w.heap[a.block]? with
   | none=>rfl
   | some o =>
     simp only [Option.map_some,Option.some.injEq]
     cases hZ : Z a.block with
     | none=>cases o <;> simp [pobj,hsp]
     | some s =>
       obtain ⟨k,lo,hi⟩:=s
       cases o <;> simp [pobj,hsp]
       rename_i c e f
       exact (extract_set c k a.off v (hoff k lo hi hZ)).symm
 . simp only [hab,if_false]
theorem setCell_other {w : World} {a : Addr} {v : Value} {b : Nat} (h : a.block ≠ b) : (w.setCell a v).heap[b]? = w.heap[b]?:=by
 simp [World.setCell,Array.getElem?_modify,h]
theorem setCell_self {w : World} {a : Addr} {v : Value} {c : Array Value} {e : TypeId} {f : Nat × Nat} (hsp : a.spot = none) (h : w.heap[a.block]? = some (.cells c e f)) : (w.setCell a v).heap[a.block]? = some (.cells (c.setIfInBounds a.off v) e f):=by
 simp [World.setCell,Array.getElem?_modify,h,hsp]
theorem size_setCell' (w : World) (a : Addr) (v : Value) : (w.setCell a v).heap.size = w.heap.size:=by simp [World.setCell]
theorem sim_store {a : Addr} {v : Value} {m : Mode} : SimOk P Z (fun _=>True) (store a v m):=fun W w es hn hf=>by
 show SimOut P Z _ (.store m a v (.pure ())) W w es (Sem.run P (.store m a v (.pure ())) W)
 have main : (∀ cs,v ≠ .agg cs) -> (∀ cs,v ≠ .tuple cs) -> SimOut P Z (fun _=>True) (.store m a v (.pure ())) W w es (Sem.run P (.store m a v (.pure ())) W):=by
   intro n1 n2
   have r1 : ∀ w',Sem.run P (.store m a v (.pure ())) w' = match w'.cell? a with
       | some _ => if w'.frozen? a then .halt (.unsupported (.unsafePointer "a write to bytes that a string shares")) w' else .ok () (w'.setCell a v)
       | none=>match w'.farStore P a v (m == .atomic) with
         | .ok (w',_)=>.ok () w'
         | .error h=>.halt h w':=fun w'=>by cases v <;> first | rfl | exact absurd rfl (n1 _) | exact absurd rfl (n2 _)
   have r2 : ∀ w' es,Sem.runT P (.store m a v (.pure ())) w' es = match w'.cell? a with
       | some _ => if w'.frozen? a then (.halt (.unsupported (.unsafePointer "a write to bytes that a string shares")) w', es) else (.ok () (w'.setCell a v), es.push ⟨.cell a, true, m == .atomic⟩)
       | none=>match w'.farStore P a v (m == .atomic) with
         | .ok (w',touched)=>(.ok () w',es ++ touched.toArray.map (⟨.cell ·,true,m == .atomic⟩))
         | .error h=>(.halt h w',es):=fun w' es=>by cases v <;> first | rfl | exact absurd rfl (n1 _) | exact absurd rfl (n2 _)
   rw [r1]
   cases hc : W.cell? a with
   | some v0 =>
     simp only
     cases hfr : W.frozen? a with
     | true=>simp only [if_true]; trivial
     | false =>
       simp only [if_false,Bool.false_eq_true]
       obtain ⟨h1,h2,h3,⟨c,e,f,h4,h5⟩,h6⟩:=cell_of_norm hn hc
       obtain ⟨h7,h8⟩:=frozen_of_norm hn hf h4 hfr
       have hnz : ∀ b s,Z b = some s -> ∃ o,(w.setCell a v).heap[b]? = some o /\ ((∃ c e,o = .cells c e (0,0)) ∨ ∃ cap buf cl s r tm,o = .chan cap buf cl s r tm):=fun b s hz=>by
         obtain ⟨_,o,ho,hk⟩:=hf.cut b s hz
         by_cases hab : a.block = b
         . subst hab
           rw [h4] at ho
           obtain rfl:=Option.some.inj ho
           rw [setCell_self h3 h4]
           rcases hk with ⟨c',e',x⟩ | ⟨_,_,_,_,_,_,x⟩
           . obtain ⟨rfl,rfl,rfl⟩ : c = c' /\ e = e' /\ f = (0,0):=by simpa using x
             exact ⟨_,rfl,.inl ⟨_,_,rfl⟩⟩
           . cases x
         . rw [setCell_other hab]; exact ⟨o,ho,hk⟩
       have hrw : ∀ b k lo hi,Z b = some (k + 1,lo,hi) -> ∃ c e f,(w.setCell a v).heap[b]? = some (.cells c e f):=fun b k lo hi hb=>by
         by_cases hab : a.block = b
         . subst hab; exact ⟨_,_,_,setCell_self h3 h4⟩
         . rw [setCell_other hab]; exact hf.rows b k lo hi hb
       have hch : ∀ b lo hi,Z b = some (0,lo,hi) -> ∃ cap buf cl s r tm,(w.setCell a v).heap[b]? = some (.chan cap buf cl s r tm):=fun b lo hi hb=>by
         obtain ⟨c1,c2,c3,c4,c5,c6,hc'⟩:=hf.chans b lo hi hb
         by_cases hab : a.block = b
         . subst hab; rw [h4] at hc'; cases hc'
         . rw [setCell_other hab]; exact ⟨c1,c2,c3,c4,c5,c6,hc'⟩
       have hgl : ∀ b,b < P.globals.size -> ∃ c e f,(w.setCell a v).heap[b]? = some (.cells c e f):=fun b hb=>by
         by_cases hab : a.block = b
         . subst hab; exact ⟨_,_,_,setCell_self h3 h4⟩
         . rw [setCell_other hab]; exact hf.glob b hb
       refine ⟨trivial,Nat.le_refl _,rfl,fun _=>⟨w.setCell a v,es.push ⟨.cell a,true,m == .atomic⟩,by rw [r2,h1]; simp only [h7,if_false,Bool.false_eq_true],norm_setCell hn h3 h6,⟨fun b s hz=>⟨(hf.cut b s hz).1,hnz b s hz⟩,hrw,hch,hgl,hf.bad⟩,⟨fun b s o hz ho hnc=>?_,fun b k lo hi c' e' f' hz ho=>?_,by rw [size_setCell']; exact Nat.le_refl _,rfl,fun b a' u hv=>by
         by_cases hab : a.block = b
         . subst hab; rw [setCell_self h3 h4] at hv; cases hv
         . rw [setCell_other hab] at hv; exact hv,rfl,rfl⟩,rfl,evs_push ⟨by rw [size_setCell']; exact h2,fun k lo hi hz=>⟨h6 k lo hi hz,fun _=>h8 k lo hi hz⟩⟩⟩⟩
       . by_cases hab : a.block = b
         . subst hab; rw [h4] at ho; obtain rfl:=Option.some.inj ho; exact absurd rfl (hnc _ _ _)
         . rw [setCell_other hab]; exact ho
       . by_cases hab : a.block = b
         . subst hab
           rw [h4] at ho
           obtain ⟨rfl,rfl,rfl⟩ : c = c' /\ e = e' /\ f = f':=by simpa using ho
           refine ⟨_,setCell_self h3 h4,by simp,fun i hi'=>?_⟩
           rw [Array.getElem?_setIfInBounds_ne]
           have:=h6 k lo hi hz
           have:=h8 k lo hi hz
           intro x
           omega
         . rw [setCell_other hab]; exact ⟨c',ho,rfl,fun _ _=>rfl⟩
   | none =>
     unfold World.farStore
     cases ho : W.heap[a.block]? with
     | none=>simp only; exact noCell_out hn hf ho
     | some o =>
       cases o with
       | view at_ u =>
         obtain ⟨x,_,_,_,_,e⟩:=obj_of_norm' hn ho (by simp)
         obtain rfl : u = tBad:=by
           cases x <;> simp [pobj] at e
           exact e.2
         obtain ⟨m',hm⟩:=viewStore_bad hf.bad W at_ a v (m == .atomic)
         simp only [hm]
         trivial
       | _=>simp only; exact noCell_out hn hf ho
 cases v with
 | agg cs=>trivial
 | tuple cs=>trivial
 | _=>exact main (by simp) (by simp)
theorem Fit.fresh {w : World} (h : Fit P Z w) {b : Nat} (hb : w.heap.size <= b) : Z b = none:=by
 cases hZ : Z b with
 | none=>rfl
 | some s =>
   obtain ⟨_,o,ho,_⟩:=h.cut b s hZ
   have:=(Array.getElem?_eq_some_iff.1 ho).1
   omega
theorem norm_heap {W w : World} (h : norm W = pz Z w) {H H' : Array Obj} (hh : ∀ b,H[b]? = (H'[b]?).map (pobj (Z b))) : norm { W with heap:=H } = pz Z { w with heap:=H' }:=by
 have e1 : (norm W).os = (pz Z w).os:=congrArg World.os h
 have e2 : (norm W).output = (pz Z w).output:=congrArg World.output h
 refine norm_eq _ (pz Z { w with heap:=H' }) ?_ e1 e2
 apply Array.ext_getElem?
 intro b
 rw [pz_heap]
 exact hh b
theorem sim_newObj {o : Obj} (ho : ∀ a u,o ≠ .view a u) : SimOk P Z (fun _=>True) (newObj o):=fun W w es hn hf=>by
 show SimOut P Z _ (.new o .pure) W w es (Sem.run P (.new o .pure) W)
 simp only [Sem.run]
 have hs:=size_of_norm hn
 have hz:=hf.fresh (Nat.le_refl _)
 have hh : ∀ b,(W.heap.push o)[b]? = ((w.heap.push o)[b]?).map (pobj (Z b)):=fun b=>by
   rw [Array.getElem?_push,Array.getElem?_push,hs]
   by_cases hb : b = w.heap.size
   . subst hb; simp [hz,pobj_none ho]
   . rw [if_neg hb,if_neg hb]; exact heap_of_norm hn b
 have hold : ∀ b x,w.heap[b]? = some x -> (w.heap.push o)[b]? = some x:=fun b x hx=>by
   have:=(Array.getElem?_eq_some_iff.1 hx).1
   rw [Array.getElem?_push,if_neg (by omega)]; exact hx
 refine ⟨trivial,Nat.le_refl _,rfl,fun _=>⟨{ w with heap:=w.heap.push o },es,by simp only [Sem.runT,hs],norm_heap hn hh,⟨fun b s hb=>?_,fun b k lo hi hb=>let ⟨c,e,f,h⟩:=hf.rows b k lo hi hb; ⟨c,e,f,hold b _ h⟩,fun b lo hi hb=>let ⟨c1,c2,c3,c4,c5,c6,h⟩:=hf.chans b lo hi hb; ⟨c1,c2,c3,c4,c5,c6,hold b _ h⟩,fun b hb=>?_,hf.bad⟩,⟨fun b s x hb hx _=>hold b x hx,fun b k lo hi c e f hb hx=>⟨c,hold b _ hx,rfl,fun _ _=>rfl⟩,by simp,rfl,fun b a u hv=>by
   rw [Array.getElem?_push] at hv
   split at hv
   . exact absurd (Option.some.inj hv) (ho a u)
   . exact hv,rfl,rfl⟩,rfl,#[],by simp,by simp⟩⟩
 . obtain ⟨h1,x,h2,h3⟩:=hf.cut b s hb
   exact ⟨h1,x,hold b x h2,h3⟩
 . obtain ⟨c,e,f,h⟩:=hf.glob b hb
   exact ⟨c,e,f,hold b _ h⟩
theorem sim_getObj_at {r : Nat} {W w : World} {es : Array Event} (hn : norm W = pz Z w) (hf : Fit P Z w) (hv : ∀ a u,W.heap[r]? ≠ some (.view a u)) : SimOut P Z (fun _=>True) (getObj r) W w es ((getObj r).run P W):=by
 show SimOut P Z _ (.getObj r .pure) W w es (Sem.run P (.getObj r .pure) W)
 simp only [Sem.run]
 cases ho : W.heap[r]? with
 | none=>trivial
 | some o =>
   have main : (∀ c e f,o ≠ .cells c e f) -> SimOut P Z (fun _=>True) (.getObj r .pure) W w es (.ok o W):=fun hnc=>by
     obtain ⟨h1,h2,h3⟩:=obj_of_norm hn ho hnc (fun a u h=>hv a u (h ▸ ho))
     refine ⟨trivial,Nat.le_refl _,rfl,fun _=>⟨w,es.push ⟨.obj r,false,o.isChan⟩,?_,hn,hf,Hidden.refl w,rfl,evs_push ⟨h3,.inl h2⟩⟩⟩
     simp only [Sem.runT,h1]
   cases o with
   | cells c e f=>trivial
   | _=>exact main (by simp)
theorem sim_getObj {α : Type} {A : α -> Prop} {r : Nat} {k : Obj -> Sem α} (hv : ∀ a u,∃ m,k (.view a u) = stuck m) (hk : ∀ o,SimOk P Z A (k o)) : SimOk P Z A (getObj r >>= k):=fun W w es hn hf=>by
 by_cases hx : ∃ a u,W.heap[r]? = some (.view a u)
 . obtain ⟨a,u,hx⟩:=hx
   obtain ⟨m,hm⟩:=hv a u
   have : (getObj r >>= k).run P W = .halt (.stuck m) W:=by
     show Sem.run P (.getObj r k) W = _
     simp only [Sem.run,hx,hm]
     rfl
   rw [this]
   trivial
 . have hx' : ∀ a u,W.heap[r]? ≠ some (.view a u):=fun a u h=>hx ⟨a,u,h⟩
   exact sim_bind_at hn hf (sim_getObj_at hn hf hx') (sim_getObj_at (w:=re w W.tape W.drawn) hn (hf.re _ _) hx') fun o _=>hk o
theorem sim_setObj {r : Nat} {o : Obj} (hov : ∀ a u,o ≠ .view a u) : SimOk P Z (fun _=>True) (setObj r o):=fun W w es hn hf=>by
 show SimOut P Z _ (.setObj r o (.pure ())) W w es (Sem.run P (.setObj r o (.pure ())) W)
 simp only [Sem.run]
 cases ho : W.heap[r]? with
 | none=>trivial
 | some x =>
   have main : (∀ c e f,x ≠ .cells c e f) -> SimOut P Z (fun _=>True) (.setObj r o (.pure ())) W w es (.ok () { W with heap:=W.heap.setIfInBounds r o }):=fun hnc=>by
     obtain ⟨x0,h1,hnx,h2,h3,_⟩:=obj_of_norm' hn ho hnc
     have hh : ∀ b,(W.heap.setIfInBounds r o)[b]? = ((w.heap.setIfInBounds r o)[b]?).map (pobj (Z b)):=fun b=>by
       have hlt : r < W.heap.size:=by rw [size_of_norm hn]; exact h3
       by_cases hb : r = b
       . subst hb; rw [Array.getElem?_setIfInBounds_self_of_lt hlt,Array.getElem?_setIfInBounds_self_of_lt h3,h2]; simp [pobj_none hov]
       . rw [Array.getElem?_setIfInBounds_ne hb,Array.getElem?_setIfInBounds_ne hb]; exact heap_of_norm hn b
     have hne : ∀ b,b ≠ r -> (w.heap.setIfInBounds r o)[b]? = w.heap[b]?:=fun b hb=>Array.getElem?_setIfInBounds_ne (Ne.symm hb)
     have hzr : ∀ b s,Z b = some s -> b ≠ r:=fun b s hz hb=>by subst hb; rw [h2] at hz; cases hz
     refine ⟨trivial,Nat.le_refl _,rfl,fun _=>⟨{ w with heap:=w.heap.setIfInBounds r o },es.push ⟨.obj r,true,o.isChan⟩,?_,norm_heap hn hh,⟨fun b s hb=>?_,fun b k lo hi hb=>let ⟨c,e,f,h⟩:=hf.rows b k lo hi hb; ⟨c,e,f,(hne b (hzr b _ hb)).trans h⟩,fun b lo hi hb=>let ⟨c1,c2,c3,c4,c5,c6,h⟩:=hf.chans b lo hi hb; ⟨c1,c2,c3,c4,c5,c6,(hne b (hzr b _ hb)).trans h⟩,fun b hb=>?_,hf.bad⟩,⟨fun b s y hb hy _=>(hne b (hzr b s hb)).trans hy,fun b k lo hi c e f hb hy=>⟨c,(hne b (hzr b _ hb)).trans hy,rfl,fun _ _=>rfl⟩,by simp,rfl,fun b a u hv=>by
       by_cases hb : b = r
       . subst hb; rw [Array.getElem?_setIfInBounds_self_of_lt h3] at hv; exact absurd (Option.some.inj hv) (hov a u)
       . exact (hne b hb) ▸ hv,rfl,rfl⟩,rfl,evs_push ⟨by simpa using h3,.inl h2⟩⟩⟩
     . simp only [Sem.runT,h1]
     . obtain ⟨g1,y,g2,g3⟩:=hf.cut b s hb
       exact ⟨g1,y,(hne b (hzr b s hb)).trans g2,g3⟩
     . obtain ⟨c,e,f,h⟩:=hf.glob b hb
       refine ⟨c,e,f,(hne b fun hb'=>?_).trans h⟩
       subst hb'
       rw [h1] at h
       exact hnx _ _ _ (Option.some.inj h)
   cases x with
   | cells c e f=>trivial
   | _=>exact main (by simp)
theorem sim_numberAt {r : Nat} : SimOk P Z (fun _=>True) (numberAt r):=fun W w es hn hf=>by
 have e0 : ∀ w' : World,Sem.run P (numberAt r) w' = if (w'.shape? r).isSome then .ok none w' else match w'.heap[r]? with
     | some (.cells ..) => .halt (.stuck "getObj: a row of cells") w'
     | some (.number a lost)=>.ok (some (a,lost)) w'
     | some _=>.ok none w'
     | none => .halt (.stuck "getObj: no such block") w' := fun w' => by
   show Sem.run P (.shape r fun s=>_) w' = _
   simp only [Sem.run]
   cases hs : w'.shape? r with
   | some x=>rfl
   | none =>
     show Sem.run P (.getObj r fun o=>_) w' = _
     simp only [Sem.run]
     cases ho : w'.heap[r]? with
     | none=>rfl
     | some o=>cases o <;> rfl
 have e1 : ∀ (w' : World) es,Sem.runT P (numberAt r) w' es = if (w'.shape? r).isSome then (.ok none w',es) else match w'.heap[r]? with
     | some (.cells ..) => (.halt (.stuck "getObj: a row of cells") w', es)
     | some (.number a lost)=>(.ok (some (a,lost)) w',es.push ⟨.obj r,false,false⟩)
     | some o=>(.ok none w',es.push ⟨.obj r,false,o.isChan⟩)
     | none => (.halt (.stuck "getObj: no such block") w', es) := fun w' es => by
   show Sem.runT P (.shape r fun s=>_) w' es = _
   simp only [Sem.runT]
   cases hs : w'.shape? r with
   | some x=>rfl
   | none =>
     show Sem.runT P (.getObj r fun o=>_) w' es = _
     simp only [Sem.runT]
     cases ho : w'.heap[r]? with
     | none=>rfl
     | some o=>cases o <;> rfl
 rw [e0]
 cases ho : W.heap[r]? with
 | none=>simp only [World.shape?,ho]; trivial
 | some o =>
   have main : (∀ c e f,o ≠ .cells c e f) -> SimOut P Z (fun _=>True) (numberAt r) W w es (if (W.shape? r).isSome then .ok none W else match some o with
     | some (.cells ..) => .halt (.stuck "getObj: a row of cells") W
     | some (.number a lost)=>.ok (some (a,lost)) W
     | some _=>.ok none W
     | none => .halt (.stuck "getObj: no such block") W) := fun hnc => by
     obtain ⟨x,h1,hnx,h2,h3,rfl⟩:=obj_of_norm' hn ho hnc
     have s1 : W.shape? r = none:=by unfold World.shape?; rw [ho]; cases x <;> first | rfl | exact absurd rfl (hnx _ _ _)
     have s2 : w.shape? r = none:=by unfold World.shape?; rw [h1]; cases x <;> first | rfl | exact absurd rfl (hnx _ _ _)
     have q:=e1 w es
     rw [s2,h1] at q
     rw [s1]
     simp only [Option.isSome_none,if_false,Bool.false_eq_true] at q ⊢
     cases x <;> first
       | exact absurd rfl (hnx _ _ _)
       | exact ⟨trivial,Nat.le_refl _,rfl,fun _=>⟨w,_,q,hn,hf,Hidden.refl w,rfl,evs_push ⟨h3,.inl h2⟩⟩⟩
   cases o with
   | cells c e f =>
     have s1 : W.shape? r = some (e,c.size):=by simp [World.shape?,ho]
     simp only [s1,Option.isSome_some,if_true]
     refine ⟨trivial,Nat.le_refl _,rfl,fun _=>?_⟩
     have q:=e1 w es
     rw [heap_of_norm hn] at ho
     obtain ⟨x,hx,hp⟩:=Option.map_eq_some_iff.1 ho
     have hlt:=(Array.getElem?_eq_some_iff.1 hx).1
     rw [hx] at q
     cases x with
     | cells c' e' f' =>
       simp only [World.shape?,hx,Option.isSome_some,if_true] at q
       exact ⟨w,_,q,Out.id hn hf es⟩
     | number a l =>
       exfalso
       cases hZ : Z r with
       | none=>rw [hZ] at hp; cases hp
       | some s=>obtain ⟨_,o,ho',hk⟩:=hf.cut r s hZ; rw [hx] at ho'; obtain rfl:=Option.some.inj ho'; rcases hk with ⟨_,_,k⟩ | ⟨_,_,_,_,_,_,k⟩ <;> cases k
     | _ =>
       simp only [World.shape?,hx,Option.isSome_none,if_false,Bool.false_eq_true] at q
       exact ⟨w,_,q,hn,hf,Hidden.refl w,rfl,evs_push ⟨hlt,.inr rfl⟩⟩
   | _=>exact main (by simp)
def Doom {α : Type} (P : Program) (s : Sem α) : Prop:=∀ W,∃ h,s.run P W = .halt h W /\ ((∃ m,h = .stuck m) ∨ ∃ u,h = .unsupported u /\ ∀ g,u ≠ .initOrder g)
theorem doom_uns {α : Type} {u : Unsupported} (h : ∀ g,u ≠ .initOrder g) : Doom P (unsupported u : Sem α):=fun W=>⟨_,rfl,.inr ⟨_,rfl,h⟩⟩
theorem Doom.out {α : Type} {A : α -> Prop} {s s' : Sem α} (h : Doom P s) {W w : World} {es : Array Event} : SimOut P Z A s' W w es (s.run P W):=by
 obtain ⟨x,hx,⟨m,rfl⟩ | ⟨u,rfl,hu⟩⟩:=h W
 . rw [hx]; trivial
 . rw [hx]; cases u <;> first | trivial | exact absurd rfl (hu _)
theorem Doom.bind {α β : Type} {s : Sem α} {f : α -> Sem β} (h : Doom P s) : Doom P (s >>= f):=fun W=>by
 obtain ⟨x,hx,hk⟩:=h W
 refine ⟨x,?_,hk⟩
 show (s.bind f).run P W = _
 rw [← Sem.runT_fst P (s.bind f) W #[],Go.Sem.runT_bind' P s f W #[]]
 simp only [Sem.runT_eq,hx]
theorem run_shape {α : Type} {k : Option (TypeId × Nat) -> Sem α} (r : Nat) (w : World) : (shape r >>= k).run P w = (k (w.shape? r)).run P w:=rfl
theorem runT_shape {α : Type} {k : Option (TypeId × Nat) -> Sem α} (r : Nat) (w : World) (es : Array Event) : (shape r >>= k).runT P w es = (k (w.shape? r)).runT P w es:=rfl
theorem SimOut.congr {α : Type} {A : α -> Prop} {s s' : Sem α} {W w : World} {es : Array Event} {r : Result α} (h : SimOut P Z A s W w es r) (he : ∀ es,s'.runT P w es = s.runT P w es) : SimOut P Z A s' W w es r:=by
 cases r with
 | ok a W'=>obtain ⟨h1,h2,h3,h4⟩:=h; exact ⟨h1,h2,h3,fun g=>by obtain ⟨w',es',e,o⟩:=h4 g; exact ⟨w',es',(he es).trans e,o⟩⟩
 | halt x W' =>
   cases x with
   | panic v=>obtain ⟨h2,h3,h4⟩:=h; exact ⟨h2,h3,fun g=>by obtain ⟨w',es',e,o⟩:=h4 g; exact ⟨w',es',(he es).trans e,o⟩⟩
   | unsupported u=>cases u <;> exact h
   | _=>exact h
theorem shape_of_norm {W w : World} (h : norm W = pz Z w) (hf : Fit P Z w) (r : Nat) : (W.shape? r = w.shape? r) ∨ (∃ k lo hi e n,Z r = some (k + 1,lo,hi) /\ w.shape? r = some (e,n) /\ W.shape? r = some (e,min (k + 1) n)) ∨ ∃ lo hi,Z r = some (0,lo,hi) /\ W.shape? r = some (tBad,0) /\ w.shape? r = none:=by
 unfold World.shape?
 rw [heap_of_norm h r]
 cases hZ : Z r with
 | none=>left; cases w.heap[r]? with
   | none=>rfl
   | some o=>cases o <;> rfl
 | some s =>
   obtain ⟨k,lo,hi⟩:=s
   obtain ⟨_,o,ho,hk⟩:=hf.cut r _ hZ
   right
   cases k with
   | zero =>
     right
     obtain ⟨_,_,_,_,_,_,hc⟩:=hf.chans r lo hi hZ
     rw [hc]
     exact ⟨lo,hi,rfl,by simp [pobj],rfl⟩
   | succ k =>
     left
     obtain ⟨c,e,f,hc⟩:=hf.rows r k lo hi hZ
     rw [hc]
     exact ⟨k,lo,hi,e,c.size,rfl,rfl,by simp [pobj]⟩
def Alike {α : Type} (P : Program) (s s' : Sem α) : Prop:=∀ w es,s.runT P w es = s'.runT P w es
theorem sim_shape {α : Type} {A : α -> Prop} {r : Nat} {k : Option (TypeId × Nat) -> Sem α} (hk : ∀ s,SimOk P Z A (k s)) (hm : ∀ e n n',n <= n' -> Alike P (k (some (e,n))) (k (some (e,n'))) ∨ Doom P (k (some (e,n))))
   (hb : P.info? tBad = none -> (∃ lo hi,Z r = some (0,lo,hi)) -> Doom P (k (some (tBad,0)))) : SimOk P Z A (shape r >>= k):=fun W w es hn hf=>by
 rw [run_shape]
 rcases shape_of_norm hn hf r with h | ⟨kk,lo,hi,e,n,hz,h1,h2⟩ | ⟨lo,hi,hz,h1,h2⟩
 . rw [h]
   exact (hk _ W w es hn hf).congr fun es=>runT_shape _ _ _
 . rw [h2]
   rcases hm e (min (kk + 1) n) n (Nat.min_le_right _ _) with h3 | h3
   . exact (hk _ W w es hn hf).congr fun es=>by rw [runT_shape,h1]; exact (h3 w es).symm
   . exact h3.out
 . rw [h1]
   exact (hb hf.bad ⟨lo,hi,hz⟩).out
theorem sim_viewAt {α : Type} {A : α -> Prop} {r : Nat} {k : Option (Addr × TypeId) -> Sem α} (h1 : ∀ x,Doom P (k (some x))) (h2 : SimOk P Z A (k none)) : SimOk P Z A (viewAt r >>= k):=fun W w es hn hf=>by
 have e1 : ∀ (w' : World) es,Sem.runT P (viewAt r >>= k) w' es = if (w'.shape? r).isSome then (k none).runT P w' es else match w'.heap[r]? with
     | some (.cells ..) => (.halt (.stuck "getObj: a row of cells") w', es)
     | some (.view a t)=>(k (some (a,t))).runT P w' (es.push ⟨.obj r,false,false⟩)
     | some o=>(k none).runT P w' (es.push ⟨.obj r,false,o.isChan⟩)
     | none => (.halt (.stuck "getObj: no such block") w', es) := fun w' es => by
   show Sem.runT P (.shape r fun s=>_) w' es = _
   simp only [Sem.runT]
   cases hs : w'.shape? r with
   | some x=>rfl
   | none =>
     show Sem.runT P (.getObj r fun o=>_) w' es = _
     simp only [Sem.runT]
     cases ho : w'.heap[r]? with
     | none=>rfl
     | some o=>cases o <;> rfl
 have e0 : Sem.run P (viewAt r >>= k) W = (Sem.runT P (viewAt r >>= k) W #[]).1:=(Sem.runT_fst P _ W #[]).symm
 rw [e0,e1]
 have goon : ∀ u : Array Event,(∀ x ∈ u,EvZ Z w.heap.size x) -> (∀ es,(viewAt r >>= k).runT P w es = (k none).runT P w (es ++ u)) -> SimOut P Z A (viewAt r >>= k) W w es ((k none).run P W):=fun u hu hrw=>by
   have h:=h2 W w (es ++ u) hn hf
   cases hr : (k none).run P W with
   | ok a W' =>
     rw [hr] at h
     obtain ⟨h3,h4,h5,h6⟩:=h
     refine ⟨h3,h4,h5,fun g=>?_⟩
     obtain ⟨w',es',e,o⟩:=h6 g
     obtain ⟨v,rfl,hv⟩:=o.evs
     exact ⟨w',_,(hrw es).trans e,o.rl,o.fit,o.hid,o.drawn,u ++ v,by simp,fun x hx=>(Array.mem_append.1 hx).elim (fun y=>(hu x y).mono o.hid.size) (hv x)⟩
   | halt x W' =>
     rw [hr] at h
     cases x with
     | panic v =>
       obtain ⟨h4,h5,h6⟩:=h
       refine ⟨h4,h5,fun g=>?_⟩
       obtain ⟨w',es',e,o⟩:=h6 g
       obtain ⟨v,rfl,hv⟩:=o.evs
       exact ⟨w',_,(hrw es).trans e,o.rl,o.fit,o.hid,o.drawn,u ++ v,by simp,fun x hx=>(Array.mem_append.1 hx).elim (fun y=>(hu x y).mono o.hid.size) (hv x)⟩
     | unsupported u=>cases u <;> exact h
     | _=>exact h
 have obs : ∀ (w' : World) (x : Obj) es,w'.heap[r]? = some x -> (∀ c e f,x ≠ .cells c e f) -> (∀ a u,x ≠ .view a u) -> (viewAt r >>= k).runT P w' es = (k none).runT P w' (es ++ #[⟨.obj r,false,x.isChan⟩]):=fun w' x es hx hnc hnv=>by
   rw [e1]
   cases x <;> first | exact absurd rfl (hnc _ _ _) | exact absurd rfl (hnv _ _) | (simp only [World.shape?,hx,Option.isSome_none,if_false,Bool.false_eq_true]; rfl)
 cases ho : W.heap[r]? with
 | none=>simp only [World.shape?,ho]; trivial
 | some o =>
   by_cases hc : ∃ c e f,o = .cells c e f
   . obtain ⟨c,e,f,rfl⟩:=hc
     simp only [World.shape?,ho,Option.isSome_some,if_true]
     rw [Sem.runT_fst]
     rw [heap_of_norm hn] at ho
     obtain ⟨x,hx,hp⟩:=Option.map_eq_some_iff.1 ho
     have hlt:=(Array.getElem?_eq_some_iff.1 hx).1
     by_cases hx1 : ∃ c e f,x = .cells c e f
     . obtain ⟨c',e',f',rfl⟩:=hx1
       exact goon #[] (by simp) fun es=>by rw [e1]; simp [World.shape?,hx]
     by_cases hx2 : ∃ a u,x = .view a u
     . obtain ⟨a,u,rfl⟩:=hx2
       exfalso
       cases hZ : Z r with
       | none=>rw [hZ] at hp; cases hp
       | some s=>obtain ⟨_,o,ho',hk⟩:=hf.cut r s hZ; rw [hx] at ho'; obtain rfl:=Option.some.inj ho'; rcases hk with ⟨_,_,k⟩ | ⟨_,_,_,_,_,_,k⟩ <;> cases k
     exact goon #[⟨.obj r,false,x.isChan⟩] (fun y hy=>by obtain rfl:=Array.mem_singleton.1 hy; exact ⟨hlt,.inr rfl⟩) fun es=>obs w x es hx (fun c e f h=>hx1 ⟨c,e,f,h⟩) (fun a u h=>hx2 ⟨a,u,h⟩)
   . have hc' : ∀ c e f,o ≠ .cells c e f:=fun c e f h=>hc ⟨c,e,f,h⟩
     obtain ⟨x,h3,hnx,h4,h5,rfl⟩:=obj_of_norm' hn ho hc'
     have s1 : W.shape? r = none:=by unfold World.shape?; rw [ho]; cases x <;> first | rfl | exact absurd rfl (hnx _ _ _)
     rw [s1]
     simp only [Option.isSome_none,if_false,Bool.false_eq_true]
     by_cases hx2 : ∃ a u,x = .view a u
     . obtain ⟨a,u,rfl⟩:=hx2
       simp only [pobj]; rw [Sem.runT_fst]; exact (h1 _).out
     . have hx2' : ∀ a u,x ≠ .view a u:=fun a u h=>hx2 ⟨a,u,h⟩
       have fin:=goon #[⟨.obj r,false,x.isChan⟩] (fun y hy=>by obtain rfl:=Array.mem_singleton.1 hy; exact ⟨h5,.inl h4⟩) fun es=>obs w x es h3 hnx hx2'
       rw [pobj_none hx2']
       cases x with
       | cells c e f=>exact absurd rfl (hnx _ _ _)
       | view a u=>exact absurd rfl (hx2' _ _)
       | _=>simp only; rw [Sem.runT_fst]; exact fin
end
end Go.Proofs.Ytibcdikfbhmheaa
