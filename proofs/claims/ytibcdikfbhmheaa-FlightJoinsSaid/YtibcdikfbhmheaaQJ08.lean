import Derived.Test.YtibcdikfbhmheaaQJ07
import Derived.Test.YtibcdikfbhmheaaB24
import Derived.Test.YtibcdikfbhmheaaQJ06
import Derived.AtR
set_option linter.unusedSimpArgs false
set_option linter.unusedVariables false
namespace Go.Proofs.Ytibcdikfbhmheaa
open Go Go.Conc Go.Proofs
noncomputable section
structure Fd where
 k : Int × Int
 kb : Nat
 rb : Nat
 gb : Nat
 xb : Nat
 nb : Nat
 mb : Nat
 okb : Nat
structure FdE (D : Fd) (own : Nat -> Prop) (V : World) : Prop where
 n : V.heap[D.nb]? = some (.cells #[.pointer none] 130 (0,0))
 k : V.heap[D.kb]? = some (.cells #[.int .i64 D.k.1,.int .i64 D.k.2] 139 (0,0))
 ok : V.heap[D.okb]? = some (.cells #[.bool true] 4 (0,0))
 on : own D.nb
 ok' : own D.kb
 oo : own D.okb
structure FdI (D : Fd) (own : Nat -> Prop) (V : World) : Prop where
 e : FdE D own V
 x : V.heap[D.xb]? = some (.cells #[.pointer (some ⟨D.gb,0,none⟩)] 130 (0,0))
 g : V.heap[D.gb]? = some (.cells #[.map (some D.rb)] 190 (0,0))
 m : V.heap[D.rb]? = some (.map #[] 0)
 u : V.heap[D.mb]? = some (.cells #[.slice none 0 0,.int .i64 0] 95 (0,0))
 ox : own D.xb
 og : own D.gb
 or : own D.rb
 ou : own D.mb
 lt : D.kb < D.rb /\ D.rb < D.gb /\ D.gb < D.xb /\ D.xb < D.nb /\ D.nb < D.mb /\ D.mb < D.okb
def FdV (D : Fd) (σ : Bool) (own : Nat -> Prop) (V : World) : Prop:=if σ then FdE D own V else FdI D own V
section
variable {D : Fd} {C : Cw} {E : Env} {i : Nat} {own : Nat -> Prop} {V : World} {aY : Act} {opsY : Array Oper} {iY : Nat} {restY : List Nat} {kY : List Item}
theorem FdE.frame {V' : World} (A : FdE D own V) (hk : ∀ b,own b -> V'.heap[b]? = V.heap[b]?) : FdE D own V':=⟨(hk _ A.on).trans A.n,(hk _ A.ok').trans A.k,(hk _ A.oo).trans A.ok,A.on,A.ok',A.oo⟩
theorem FdV.frame {σ : Bool} {V' : World} (A : FdV D σ own V) (hk : ∀ b,own b -> V'.heap[b]? = V.heap[b]?) : FdV D σ own V':=by
 cases σ with
 | true=>exact FdE.frame A hk
 | false =>
   have A : FdI D own V:=A
   exact ⟨A.e.frame hk,(hk _ A.ox).trans A.x,(hk _ A.og).trans A.g,(hk _ A.or).trans A.m,(hk _ A.ou).trans A.u,A.ox,A.og,A.or,A.ou,A.lt⟩
end
structure Gs where
 p : Nat
 j : Nat
 g : Bool
def Gs.turn (s : Gs) (i : Nat) : Gs :=
 if i = 0 then (if s.p = 5 /\ s.j = 2 then { s with p:=6,j:=3 } else { s with p:=s.p + 1 })
 else if s.j = 1 then (if 2 <= s.p /\ s.p <= 5 then { s with j:=2 } else { s with j:=4 })
 else if s.j = 3 then { s with j:=4,g:=true } else { s with j:=s.j + 1 }
def Gs.stp (p : Nat) : Int:=if p = 0 then 0 else if p <= 5 then 1 else 3
def Gs.stj : Nat -> Int | 0=>0 | 1=>1 | 2=>2 | 3=>1 | _=>3
def Gs.st (s : Gs) (i : Nat) : Int:=if i = 0 then Gs.stp s.p else Gs.stj s.j
def k8 : Int × Int:=(8,0)
structure GInv (r : Nat) (s : Gs) (own : Nat -> Prop) (V : World) : Prop where
 ok : s.p <= 6 /\ s.j <= 4 /\ (s.j = 2 -> 2 <= s.p /\ s.p <= 5) /\ (s.j = 3 -> s.p = 6) /\ (s.j ≠ 4 -> s.g = false)
 ow : ∀ b,r <= b -> b <= r + 7 -> own b
 x : V.heap[r + 2]? = some (.cells #[.pointer (some ⟨r + 1,0,none⟩)] 130 (0,0))
 gg : V.heap[r + 1]? = some (.cells #[.map (some r)] 190 (0,0))
 kk : V.heap[r + 4]? = some (.cells #[.int .i64 8,.int .i64 0] 139 (0,0))
 v : V.heap[r + 5]? = some (.cells #[.int .i64 (if s.g then 5 else 0)] 3 (0,0))
 f : V.heap[r + 6]? = some (.cells #[.bool (decide (2 <= s.p))] 4 (0,0))
 se : V.heap[r + 7]? = some (.cells #[.bool (decide (s.p < 2))] 4 (0,0))
 mu : ∃ qv,MuI V own (r + 3) 0 (if s.j = 3 then 2 else 0) [] qv /\ (s.p <= 5 -> qv.ownBlock = none) /\ ∀ b,qv.ownBlock = some b -> r + 7 < b
 mp0 : ¬ (2 <= s.p /\ s.p <= 5) -> ∃ es clk,V.heap[r]? = some (.map es clk) /\ Mp es []
 mp1 : 2 <= s.p /\ s.p <= 5 -> ∃ es clk ob cv,V.heap[r]? = some (.map es clk) /\ Mp es [(k8,ob)] /\ own ob /\ r + 7 < ob /\ V.heap[ob]? = some (.cells #[cv,.bool false,.int .i64 0,.int .i64 0] 201 (0,0)) /\
   (s.j = 2 -> Qu V 183 2 cv 1 (wts (r + 3) [1]) /\ ∀ b,cv.ownBlock = some b -> own b /\ r + 7 < b /\ b ≠ ob) /\ (s.j ≠ 2 -> cv = .slice none 0 0)
def GMem (r : Nat) (cs : List Frame) (own : Nat -> Prop) (V : World) : Prop:=∀ f ∈ cs,∀ ob tp mp,JnR ob tp mp f -> own ob /\ own r /\ r + 7 < ob /\
 ((∃ es clk,V.heap[r]? = some (.map es clk) /\ Mp es [(k8,ob)]) ∨ ∃ cv,V.heap[ob]? = some (.cells #[cv,.bool true,.int .i64 5,.int .i64 0] 201 (0,0)))
theorem Mp.inj {es : Array MapEntry} {m m' : List ((Int × Int) × Nat)} (h : Mp es m) (h' : Mp es m') : m = m':=by
 unfold Mp at h h'
 rw [h] at h'
 refine List.map_inj_right (f:=fun x : (Int × Int) × Nat=>(kv x.1,Value.pointer (some ⟨x.2,0,none⟩))) (fun x y e=>?_) |>.1 h'
 obtain ⟨⟨a,b⟩,c⟩:=x
 obtain ⟨⟨a',b'⟩,c'⟩:=y
 simp only [kv,Prod.mk.injEq,Value.agg.injEq,Value.pointer.injEq,Option.some.injEq,Addr.mk.injEq,and_true] at e
 obtain ⟨e1,e2⟩:=e
 simp at e1
 obtain ⟨rfl,rfl⟩:=e1
 rw [e2]
theorem GInv.frame {r : Nat} {s : Gs} {own : Nat -> Prop} {V V' : World} (A : GInv r s own V) (hk : ∀ b,own b -> V'.heap[b]? = V.heap[b]?) : GInv r s own V':=by
 have h : ∀ d,d <= 7 -> V'.heap[r + d]? = V.heap[r + d]?:=fun d hd=>hk _ (A.ow _ (by omega) (by omega))
 refine ⟨A.ok,A.ow,(h 2 (by omega)).trans A.x,(h 1 (by omega)).trans A.gg,(h 4 (by omega)).trans A.kk,(h 5 (by omega)).trans A.v,(h 6 (by omega)).trans A.f,(h 7 (by omega)).trans A.se,?_,fun hp=>?_,fun hp=>?_⟩
 . obtain ⟨qv,M,hq⟩:=A.mu
   exact ⟨qv,M.keep hk,hq⟩
 . obtain ⟨es,clk,h1,h2⟩:=A.mp0 hp
   exact ⟨es,clk,(h 0 (by omega)).trans h1,h2⟩
 . obtain ⟨es,clk,ob,cv,h1,h2,h3,h4,h5,h6,h7⟩:=A.mp1 hp
   refine ⟨es,clk,ob,cv,(h 0 (by omega)).trans h1,h2,h3,h4,(hk _ h3).trans h5,fun hj=>?_,h7⟩
   obtain ⟨q1,q2⟩:=h6 hj
   exact ⟨q1.keep fun b hb=>hk b (q2 b hb).1,q2⟩
theorem GMem.frame {r : Nat} {cs : List Frame} {own : Nat -> Prop} {V V' : World} (A : GMem r cs own V) (hk : ∀ b,own b -> V'.heap[b]? = V.heap[b]?) : GMem r cs own V':=fun f hf ob tp mp h=>by
 obtain ⟨h1,h2,h3,h4⟩:=A f hf ob tp mp h
 refine ⟨h1,h2,h3,?_⟩
 rw [hk _ h1,hk _ h2]
 exact h4
noncomputable def lB : Code:=Try.f100.body.getD .skip
def lc0 : Array Oper:=rops (nva lB)
def lX1 : Code:=nvb lB
def lX4 : Code:=nvb (nvb (nvb lX1))
def lc4 : Array Oper:=rops (nva lX4)
def lX5 : Code:=nvb lX4
def lc5 : Array Oper:=rops (nva lX5)
def lX6 : Code:=nvb lX5
def lc6 : Array Oper:=rops (nva lX6)
def lX7 : Code:=nvb lX6
def lc7 : Array Oper:=rops (nva lX7)
def lX8 : Code:=nvb lX7
noncomputable def iB : Code:=Try.f101.body.getD .skip
def ic0 : Array Oper:=rops (nva iB)
def iX1 : Code:=nvb iB
def ic1 : Array Oper:=rops (nva iX1)
def iX2 : Code:=nvb iX1
def LF1 (r : Nat) (tp : Value) (T : Array Value) : Prop:=T.size = 31 /\ T[0]? = some tp /\ T[1]? = some (.pointer (some ⟨r + 3,0,none⟩)) /\ T[2]? = some (.pointer (some ⟨r + 2,0,none⟩)) /\ T[3]? = some (.pointer (some ⟨r + 4,0,none⟩)) /\ T[4]? = some (.pointer (some ⟨r + 6,0,none⟩)) /\ T[5]? = some (.pointer (some ⟨r + 7,0,none⟩))
def IF1 (r : Nat) (tp : Value) (T : Array Value) : Prop:=T.size = 17 /\ T[0]? = some tp /\ T[1]? = some (.pointer (some ⟨r + 3,0,none⟩)) /\ T[2]? = some (.pointer (some ⟨r + 2,0,none⟩)) /\ T[3]? = some (.pointer (some ⟨r + 4,0,none⟩)) /\ T[4]? = some (.pointer (some ⟨r + 5,0,none⟩))
def GLoc (r : Nat) (C : Cw) (s : Gs) (i : Nat) (cs : List Frame) : Prop :=
 (i = 0 -> (s.p = 1 -> ∃ f T,LkY (r + 3) 0 (C.tp 0) f /\ LF1 r (C.tp 0) T /\ cs = [f,(base 100).at ⟨T,[]⟩ [.inRegion lc0 [1],.code lX1]]) /\
   (s.p = 2 -> ∃ T,LF1 r (C.tp 0) T /\ cs = [(base 100).at ⟨T,[]⟩ [.inRegion lc4 [1],.code lX5]]) /\
   (s.p = 3 -> ∃ T,LF1 r (C.tp 0) T /\ cs = [(base 100).at ⟨T,[]⟩ [.inRegion lc5 [1],.code lX6]]) /\
   (s.p = 4 -> ∃ T,LF1 r (C.tp 0) T /\ cs = [(base 100).at ⟨T,[]⟩ [.inRegion lc6 [1],.code lX7]]) /\
   (s.p = 5 -> ∃ f T,LkY (r + 3) 0 (C.tp 0) f /\ LF1 r (C.tp 0) T /\ cs = [f,(base 100).at ⟨T,[]⟩ [.inRegion lc7 [1],.code lX8]]) /\ 1 <= s.p /\ s.p <= 5) /\
 (i ≠ 0 -> i = 1 /\ (s.j = 1 -> ∃ f T,LkY (r + 3) 0 (C.tp 1) f /\ IF1 r (C.tp 1) T /\ cs = [f,(base 101).at ⟨T,[]⟩ [.inRegion ic0 [1],.code iX1]]) /\
   (s.j = 2 ∨ s.j = 3 -> ∃ f g h ob T,RsP (r + 3) 0 (C.tp 1) f /\ WtR g /\ JnR ob (C.tp 1) (.pointer (some ⟨r + 3,0,none⟩)) h /\ IF1 r (C.tp 1) T /\ cs = [f,g,h,(base 101).at ⟨T,[]⟩ [.inRegion ic1 [3,4,5,6,7],.code iX2]]) /\ 1 <= s.j /\ s.j <= 3)
def Ufl (r : Nat) (C : Cw) : Usr:={ S:=Gs,inv:=GInv r,st:=Gs.st,loc:=GLoc r C,turn:=Gs.turn,fid:=fun i=>if i = 0 then 100 else 101,first:=fun _=>#[],caps:=fun i=>if i = 0 then #[bp (r + 3),bp (r + 2),bp (r + 4),bp (r + 6),bp (r + 7)] else #[bp (r + 3),bp (r + 2),bp (r + 4),bp (r + 5)],mem:=GMem r }
section
variable {P : Program} {main : Bool} {Z : Cuts} {KK : Nat -> Goroutine -> World -> Prop} {d : Nat} {V V' : World} {b bQ : Frame} {a aQ : Act} {k kQ : List Item} {cs : List Frame}
theorem markK_sem (hK : MarkK P main Z KK) {α : Type} {A : α -> Prop} {s : Sem α} {v : α} {g g' : Goroutine} {fn : FuncId} (hs : SimOk P Z A s) (hn' : norm V' = V') (hr : ∀ τ,s.run P (re V τ 0) = .ok v (re V' τ 0)) (hg : g.status = .running)
   (hst : ∀ w w' es,s.runT P w #[] = (.ok v w',es) -> stepG P main g w = .go g' w' (seen P fn es)) (h : KK d g' V') : KK d g V:=by
 refine hK.walk d g V ?_
 have step : ∀ w,pz Z w = V -> Fit P Z w -> ∃ w' es,stepG P main g w = .go g' w' es /\ Hidden Z w w' /\ Fit P Z w' /\ (∀ e ∈ es,EvZ Z w'.heap.size e) /\ pz Z w' = V':=fun w hV hf=>by
   subst hV
   have hsim:=hs (re (pz Z w) (glue (fun _ _=>0) 0 w) 0) w #[] rfl hf
   rw [hr] at hsim
   obtain ⟨hnx,hd,ht,hgo⟩:=hsim
   obtain ⟨w',es',e,o'⟩:=hgo glue_ag
   refine ⟨w',_,hst w w' es' e,o'.hid,o'.fit,fun e he=>?_,by rw [← o'.rl]; exact hn'⟩
   obtain ⟨u,hu,hu'⟩:=o'.evs
   have:=mem_seen he
   rw [hu] at this
   exact hu' e (by simpa using this)
 refine .step hg (fun w hV hf=>?_) fun w g1 w' es hV hf hst'=>?_
 . obtain ⟨w',es,e,h1,h2,h3,_⟩:=step w hV hf
   exact ⟨_,w',es,e,h1,h2,h3⟩
 . obtain ⟨w1,es1,e,h1,h2,h3,h4⟩:=step w hV hf
   rw [e] at hst'
   injection hst' with e1 e2 e3
   subst e1 e2
   rw [h4]; exact .stop h
def loopOf (f : FuncId) (T : Array Value) (ps : Array Tmp) (x y : Code) (D : Nat) (st : LoopState) : Obj:=.loop { state:=st,pending:=none,fn:=f,tmps:=T,params:=ps,assign:=x,body:=y,defers:=D }
theorem enterLoop_eq (f : FuncId) (T : Array Value) (ps : Array Tmp) (x y : Code) : Instr.enterLoop f T ps x y none = (newObj (.deferred (some [])) >>= fun r=>newObj (.loop { state:=.ready,pending:=none,fn:=f,tmps:=T,params:=ps,assign:=x,body:=y,defers:=r }) >>= fun l=>(pure (l,[({ target:=.collected r,args:=#[] } : Deferred)]) : Sem (Nat × List Deferred))):=by
 rfl
theorem sim_enterLoop {f : FuncId} {T : Array Value} {ps : Array Tmp} {x y : Code} : SimOk P Z (fun _=>True) (Instr.enterLoop f T ps x y none):=by
 rw [enterLoop_eq]
 exact sim_bind (A:=fun _=>True) (sim_newObj (by simp)) fun _ _=>sim_bind (A:=fun _=>True) (sim_newObj (by simp)) fun _ _=>sim_pure trivial
theorem apply_enterF {fr : Frame} {s : Sem Next} {w w' : World} {es : Array Event} {f : FuncId} {args : Array Value} {l : Nat} (hk : fr.kind = .normal) (ht : fr.todo = .inRangeFunc l :: k) (h : s.runT P w #[] = (.ok (.enter f args) w',es)) : stepG.apply P true fr cs none s w = .go (G (Frame.enter P f args .normal) (fr :: cs)) w' (seen P fr.fn es):=by
 simp [stepG.apply,h,hk,ht,GStep.after,G,-Sem.runT_eq]
theorem sim_endLoop {l : Nat} : SimOk P Z (fun _=>True) (Instr.endLoop l):=by
 unfold Instr.endLoop Instr.getLoop
 refine sim_bind (A:=fun _=>True) (sim_getObj (fun _ _=>⟨_,rfl⟩) fun o=>?_) fun r _=>?_
 . cases o <;> dsimp only <;> first | exact sim_pure trivial | exact sim_stuck
 . repeat' (first
     | with_reducible exact sim_pure trivial
     | with_reducible exact sim_runtimePanic
     | exact sim_setObj (by simp)
     | (with_reducible refine sim_bind (A:=fun _=>True) ?_ (fun _ _=>?_))
     | split
     | dsimp only)
theorem sim_takeDeferred {l : Nat} : SimOk P Z (fun _=>True) (Instr.takeDeferred l):=by
 unfold Instr.takeDeferred
 refine sim_getObj (fun _ _=>⟨_,rfl⟩) fun o=>?_
 repeat' (first
   | with_reducible exact sim_pure trivial
   | with_reducible exact sim_stuck
   | exact sim_setObj (by simp)
   | (with_reducible refine sim_bind (A:=fun _=>True) ?_ (fun _ _=>?_))
   | split
   | dsimp only)
theorem mk_range (hK : MarkK P main Z KK) (hn : norm V = V) {f : Operand} {F : FuncId} {fn : Func} {caps : Array Value} {ps : Array Tmp} {x y : Code} (hk : b.kind = .normal) (hf : a.eval f = .func (.func F) #[] caps) (hF : P.funcs[F]? = some fn) (hname : (fn.name == "runtime.NumGoroutine") = false) (hb : fn.body.isNone = false)
   (h : KK d (G (Frame.enter P F (#[.func (.yield (V.heap.size + 1)) #[] #[]] ++ caps) .normal) (b.at ⟨a.tmps,{ target:=.collected V.heap.size,args:=#[] } :: a.defers⟩ (.inRangeFunc (V.heap.size + 1) :: k) :: cs)) ((V.alloc (.deferred (some []))).alloc (loopOf b.fn a.tmps ps x y V.heap.size .ready))) :
   KK d (G (b.at a (.code (.rangeFunc f ps x y) :: k)) cs) V:=by
 refine markK_sem hK (s:=Instr.enterLoop b.fn a.tmps ps x y none) (v:=(V.heap.size + 1,[{ target:=.collected V.heap.size,args:=#[] }])) (fn:=b.fn) sim_enterLoop (norm_al (norm_al hn _) _) (fun τ=>?_) rfl (fun w w' es e=>?_) h
 . show Result.ok ((V.heap.push _).size,_) _ = _
   rw [Array.size_push]
   rfl
 . have h1 : (Instr.enterLoop b.fn a.tmps ps x y none).run P w = .ok (V.heap.size + 1,[{ target:=.collected V.heap.size,args:=#[] }]) w':=by rw [← Sem.runT_fst P _ w #[],e]
   have hq : ∀ ρ : Operand -> Value,ρ f = .func (.func F) #[] caps -> ∀ w',((do let d ← resolve ρ { callee:=.value f,args:=#[.const (.func (.yield (V.heap.size + 1)) #[] #[])],argTypes:=#[] } 0; invoke d.target d.args) : Sem Next).runT P w' #[] = (.ok (.enter F (#[ρ (.const (.func (.yield (V.heap.size + 1)) #[] #[]))] ++ caps)) w',#[]):=fun ρ hρ w'=>by
     have n1 : ¬ fn.name = "runtime.NumGoroutine" := by simpa using hname
     have n2 : ¬ fn.body = none:=fun h0=>by rw [h0] at hb; cases hb
     simp [resolve,hρ,Deferred.ofValue,invoke,callFunc,hF,n1,n2,Sem.runT]
   have hev:=Frame.eval_at b ⟨a.tmps,{ target:=.collected V.heap.size,args:=#[] } :: a.defers⟩ (.inRangeFunc (V.heap.size + 1) :: k)
   simp only [stepG,stepG.exec,Frame.at,G,e]
   have hh:=apply_enterF (cs:=cs) (fr:=b.at ⟨a.tmps,{ target:=.collected V.heap.size,args:=#[] } :: a.defers⟩ (.inRangeFunc (V.heap.size + 1) :: k)) hk rfl (hq _ ((hev f).trans hf) w')
   refine Eq.trans (congrArg (GStep.after (seen P b.fn es)) hh) ?_
   simp only [GStep.after,seen_none,Array.append_empty]
   rfl
theorem mk_endrange (hK : MarkK P main Z KK) (hn : norm V = V) {l D : Nat} {f : FuncId} {T : Array Value} {ps : Array Tmp} {x y : Code} {st : LoopState} (hl : V.heap[l]? = some (loopOf f T ps x y D st)) (hst : st ≠ .busy)
   (h : KK d (G (b.at a k) cs) (setM V l (loopOf f T ps x y D .exhausted))) : KK d (G (b.at a (.endRangeFunc l :: k)) cs) V:=by
 refine markK_sem hK (s:=Instr.endLoop l) (v:=none) (fn:=b.fn) sim_endLoop (setM_norm hn _ _) (fun τ=>?_) rfl (fun w w' es e=>?_) h
 . cases st <;> first | exact absurd rfl hst | simp [Instr.endLoop,Instr.getLoop,getObj,setObj,re,loopOf,Sem.run,hl,setM]
 . simp only [stepG,stepG.exec,Frame.at,G,e]
   simp [GStep.after]
theorem mk_collect (hK : MarkK P main Z KK) (hn : norm V = V) {l : Nat} {T : Array Value} {ds : List Deferred} {args : Array Value} (hl : V.heap[l]? = some (.deferred (some [])))
   (h : KK d (G { b.at ⟨T,ds⟩ k with mode:=.returning } cs) (setM V l (.deferred none))) : KK d (G { b.at ⟨T,{ target:=.collected l,args:=args } :: ds⟩ k with mode:=.returning } cs) V:=by
 refine markK_sem hK (s:=Instr.takeDeferred l) (v:=[]) (fn:=b.fn) sim_takeDeferred (setM_norm hn _ _) (fun τ=>?_) rfl (fun w w' es e=>?_) h
 . simp [Instr.takeDeferred,getObj,setObj,re,Sem.run,hl,setM]
 . simp only [stepG,unwind,Frame.at,G,e]
   simp [GStep.after]
end
section
variable {P : Program} {L : List FuncId} {main : Bool} {Z : Cuts} {KK : Nat -> Goroutine -> World -> Prop} {d : Nat} {V V' : World} {b bQ : Frame} {a aQ : Act} {k kQ : List Item} {cs : List Frame}
theorem markK_semX (hK : MarkK P main Z KK) {α : Type} {A : α -> Prop} {s : Sem α} {g : Goroutine} {g' : α -> Goroutine} {fn : FuncId} (hs : SimOk P Z A s) (Ψ : α -> World -> Prop) (hr : ∀ τ,∃ v W,s.run P (re V τ 0) = .ok v W /\ Ψ v (norm W)) (hg : g.status = .running)
   (hst : ∀ v V',Ψ v V' -> ∀ w w' es,s.runT P w #[] = (.ok v w',es) -> stepG P main g w = .go (g' v) w' (seen P fn es)) (h : ∀ v V',norm V' = V' -> Ψ v V' -> KK d (g' v) V') : KK d g V:=by
 refine hK.walk d g V ?_
 have step : ∀ w,pz Z w = V -> Fit P Z w -> ∃ v w' es,stepG P main g w = .go (g' v) w' es /\ Hidden Z w w' /\ Fit P Z w' /\ (∀ e ∈ es,EvZ Z w'.heap.size e) /\ Ψ v (pz Z w'):=fun w hV hf=>by
   subst hV
   have hsim:=hs (re (pz Z w) (glue (fun _ _=>0) 0 w) 0) w #[] rfl hf
   obtain ⟨v,W,hrun,hp⟩:=hr (glue (fun _ _=>0) 0 w)
   rw [hrun] at hsim
   obtain ⟨hnx,hd,ht,hgo⟩:=hsim
   obtain ⟨w',es',e,o'⟩:=hgo glue_ag
   have hp' : Ψ v (pz Z w'):=by rw [← o'.rl]; exact hp
   refine ⟨v,w',_,hst v _ hp' w w' es' e,o'.hid,o'.fit,fun e he=>?_,hp'⟩
   obtain ⟨u,hu,hu'⟩:=o'.evs
   have:=mem_seen he
   rw [hu] at this
   exact hu' e (by simpa using this)
 refine .step hg (fun w hV hf=>?_) fun w g1 w' es hV hf hst'=>?_
 . obtain ⟨v,w',es,e,h1,h2,h3,_⟩:=step w hV hf
   exact ⟨_,w',es,e,h1,h2,h3⟩
 . obtain ⟨v,w1,es1,e,h1,h2,h3,h4⟩:=step w hV hf
   rw [e] at hst'
   injection hst' with e1 e2 e3
   subst e1 e2
   exact .stop (h v _ rfl h4)
theorem mk_ex (hK : MarkK P main Z KK) {ops : Array Oper} {i : Nat} {rest : List Nat} {o : Oper} (hb : b.kind = .normal ∨ b.kind = .deferred) (ho : ops[i]? = some o) (hw : Region.wanted o (yielded ops a.tmps) = true) (hok : opOk P L o.op = true) (Ψ : Value -> World -> Prop)
   (hr : ∀ τ,∃ v W,(execOp a.eval o).run P (re V τ 0) = .ok (.value v) W /\ Ψ v (norm W)) (K : ∀ v V',Ψ v V' -> norm V' = V' -> KK d (G (b.at (a.put o.dst v) (.inRegion ops rest :: k)) cs) V') : KK d (G (b.at a (.inRegion ops (i :: rest) :: k)) cs) V:=by
 have hkk : (b.at a (.inRegion ops (i :: rest) :: k)).kind ≠ .early:=by
   show b.kind ≠ .early
   rcases hb with h | h <;> rw [h] <;> decide
 refine markK_semX hK (g':=fun x=>match x with | .value v=>G (b.at (a.put o.dst v) (.inRegion ops rest :: k)) cs | _=>G b []) (fn:=b.fn) (sim_execOp (Z:=Z) (o:=o) (ρ:=Act.eval a) (fun _=>rfl) (fun _=>rfl) hok) (fun x V'=>∃ v,x = .value v /\ Ψ v V') (fun τ=>?_) rfl (fun x V' ⟨v,hx,hp⟩ w w' es e=>?_) fun x V' hn ⟨v,hx,hp⟩=>?_
 . obtain ⟨v,W,h1,h2⟩:=hr τ
   exact ⟨_,W,h1,v,rfl,h2⟩
 . subst hx
   have h1 : stepG P main (G (b.at a (.inRegion ops (i :: rest) :: k)) cs) w = stepG.apply P true (b.at a (.inRegion ops (i :: rest) :: k)) cs none (execOp a.eval o) w:=stepG_oper ho hw
   rw [h1,apply_valueD hkk e,Frame.finish_at,ho]; rfl
 . subst hx
   exact K v V' hp hn
def rbase (f : FuncId) (l : Nat) : Frame:={ base f with roundOf:=some l }
theorem round_at (l : Nat) (f : FuncId) (T : Array Value) (x y : Code) : Frame.round l f T x y .normal = (rbase f l).atR ⟨T,[]⟩ [.code x,.beginRound,.code y]:=rfl
theorem mkR_step (hK : MarkK P main Z KK) {g g' : Goroutine} (hr : g.status = .running) (hs : ∀ main w,stepG P main g w = .go g' w #[]) (h : KK d g' V) : KK d g V:=mu_step (K:=fun g=>KK d g V) hK.mu hr hs h
theorem mkR_block (hK : MarkK P main Z KK) {id : Nat} {c : Code} (h : KK d (G (b.atR a (.code c :: .inBlock id :: k)) cs) V) : KK d (G (b.atR a (.code (.block id c) :: k)) cs) V:=mkR_step hK rfl (fun main w=>by simp [G,stepG,stepG.exec,Frame.atR]) h
theorem mkR_inBlock (hK : MarkK P main Z KK) {id : Nat} (h : KK d (G (b.atR a k) cs) V) : KK d (G (b.atR a (.inBlock id :: k)) cs) V:=mkR_step hK rfl (fun main w=>by simp [G,stepG,stepG.exec,Frame.atR]) h
theorem mkR_region (hK : MarkK P main Z KK) {id : Nat} {ops : Array Oper} (h : KK d (G (b.atR a (.inRegion ops (List.range ops.size) :: k)) cs) V) : KK d (G (b.atR a (.code (.region id ops false) :: k)) cs) V:=mkR_step hK rfl (fun main w=>by simp [G,stepG,stepG.exec,Frame.atR]) h
theorem mkR_region_end (hK : MarkK P main Z KK) {ops : Array Oper} (h : KK d (G (b.atR a k) cs) V) : KK d (G (b.atR a (.inRegion ops [] :: k)) cs) V:=mkR_step hK rfl (fun main w=>by simp [G,stepG,stepG.exec,Frame.atR]) h
def isDefer : Op -> Bool
 | .defer _=>true
 | _=>false
theorem stepG_operR {main : Bool} {w : World} {ops : Array Oper} {i : Nat} {rest : List Nat} {o : Oper} (ho : ops[i]? = some o) (hw : Region.wanted o (yielded ops a.tmps) = true) (hnd : isDefer o.op = false) :
   stepG P main (G (b.atR a (.inRegion ops (i :: rest) :: k)) cs) w = stepG.apply P true (b.atR a (.inRegion ops (i :: rest) :: k)) cs none (execOp a.eval o) w:=by
 have he:=Frame.eval_atR b a (.inRegion ops (i :: rest) :: k)
 simp only [Frame.atR] at he
 cases hop : o.op with
 | defer c=>rw [hop] at hnd; cases hnd
 | _=>cases hro : b.roundOf <;> (rw [hro] at he; simp [G,stepG,stepG.exec,stepG.oper,Frame.oper?,Frame.atR,ho,hw,he,hop,hro])
theorem mkR_ex (hK : MarkK P main Z KK) {ops : Array Oper} {i : Nat} {rest : List Nat} {o : Oper} (hb : b.kind = .normal) (ho : ops[i]? = some o) (hw : Region.wanted o (yielded ops a.tmps) = true) (hnd : isDefer o.op = false) (hok : opOk P L o.op = true) (Ψ : Value -> World -> Prop)
   (hr : ∀ τ,∃ v W,((execOp a.eval o).run P (re V τ 0) = .ok (.value v) W ∨ ((execOp a.eval o).run P (re V τ 0) = .ok .skip W /\ v = undef)) /\ Ψ v (norm W)) (K : ∀ v V',Ψ v V' -> norm V' = V' -> KK d (G (b.atR (a.put o.dst v) (.inRegion ops rest :: k)) cs) V') : KK d (G (b.atR a (.inRegion ops (i :: rest) :: k)) cs) V:=by
 have hkk : (b.atR a (.inRegion ops (i :: rest) :: k)).kind ≠ .early:=by
   show b.kind ≠ .early
   rw [hb]; decide
 refine markK_semX hK (g':=fun x=>match x with | .value v=>G (b.atR (a.put o.dst v) (.inRegion ops rest :: k)) cs | .skip=>G (b.atR (a.put o.dst undef) (.inRegion ops rest :: k)) cs | _=>G b []) (fn:=b.fn) (sim_execOp (Z:=Z) (o:=o) (ρ:=Act.eval a) (fun _=>rfl) (fun _=>rfl) hok) (fun x V'=>∃ v,(x = .value v ∨ (x = .skip /\ v = undef)) /\ Ψ v V') (fun τ=>?_) rfl (fun x V' ⟨v,hx,hp⟩ w w' es e=>?_) fun x V' hn ⟨v,hx,hp⟩=>?_
 . obtain ⟨v,W,h1,h2⟩:=hr τ
   rcases h1 with h1 | ⟨h1,h3⟩
   . exact ⟨_,W,h1,v,.inl rfl,h2⟩
   . exact ⟨_,W,h1,v,.inr ⟨rfl,h3⟩,h2⟩
 . have h1 : stepG P main (G (b.atR a (.inRegion ops (i :: rest) :: k)) cs) w = stepG.apply P true (b.atR a (.inRegion ops (i :: rest) :: k)) cs none (execOp a.eval o) w:=stepG_operR ho hw hnd
   rcases hx with rfl | ⟨rfl,rfl⟩
   . rw [h1,apply_valueD hkk e,Frame.finish_atR,ho]; rfl
   . rw [h1,apply_skipD hkk e,Frame.finish_atR,ho]; rfl
 . rcases hx with rfl | ⟨rfl,rfl⟩
   . exact K v V' hp hn
   . exact K undef V' hp hn
theorem sim_getLoop {l : Nat} : SimOk P Z (fun _=>True) (Instr.getLoop l):=by
 unfold Instr.getLoop
 refine sim_getObj (fun _ _=>⟨_,rfl⟩) fun o=>?_
 cases o <;> dsimp only <;> first | exact sim_pure trivial | exact sim_stuck
theorem sim_beginRound {l : Nat} : SimOk P Z (fun _=>True) (Instr.beginRound l):=by
 unfold Instr.beginRound
 refine sim_bind (A:=fun _=>True) sim_getLoop fun r _=>?_
 repeat' (first
   | with_reducible exact sim_pure trivial
   | with_reducible exact sim_runtimePanic
   | exact sim_setObj (by simp)
   | (with_reducible refine sim_bind (A:=fun _=>True) ?_ (fun _ _=>?_))
   | split
   | dsimp only)
theorem sim_endRound {l : Nat} {j : Option Code} : SimOk P Z (fun _=>True) (Instr.endRound l j):=by
 unfold Instr.endRound
 refine sim_bind (A:=fun _=>True) sim_getLoop fun r _=>?_
 exact sim_bind (A:=fun _=>True) (sim_setObj (by simp)) fun _ _=>sim_pure trivial
theorem sim_yield {l : Nat} {args : Array Value} : SimOk P Z (fun _=>True) (Instr.yield l args):=by
 unfold Instr.yield
 refine sim_bind (A:=fun _=>True) sim_getLoop fun r _=>?_
 split
 . exact sim_stuck
 . exact sim_pure trivial
end
section
variable {P : Program} {L : List FuncId} {main : Bool} {Z : Cuts} {KK : Nat -> Goroutine -> World -> Prop} {d : Nat} {V V' : World} {b bQ : Frame} {a aQ : Act} {k kQ : List Item} {cs : List Frame} {l D : Nat} {f : FuncId} {T : Array Value} {ps : Array Tmp} {x y : Code} {st : LoopState}
theorem mkR_begin (hK : MarkK P main Z KK) (hn : norm V = V) (hk : b.kind = .normal) (hro : b.roundOf = some l) (hl : V.heap[l]? = some (loopOf f T ps x y D .ready)) (h : KK d (G (b.atR a k) cs) (setM V l (loopOf f T ps x y D .busy))) : KK d (G (b.atR a (.beginRound :: k)) cs) V:=by
 have hkk : (b.atR a (.beginRound :: k)).kind ≠ .early:=by
   show b.kind ≠ .early
   rw [hk]; decide
 refine markK_sem hK (s:=(do Instr.beginRound l; pure .skip : Sem Next)) (v:=.skip) (fn:=b.fn) (sim_bind (A:=fun _=>True) sim_beginRound fun _ _=>sim_pure (A:=fun _=>True) trivial) (setM_norm hn _ _) (fun τ=>?_) rfl (fun w w' es e=>?_) h
 . simp [Instr.beginRound,Instr.getLoop,getObj,setObj,re,loopOf,Sem.run,hl,setM]
 . have h2 : stepG P main (G (b.atR a (.beginRound :: k)) cs) w = stepG.apply P true (b.atR a (.beginRound :: k)) cs none (do Instr.beginRound l; pure .skip : Sem Next) w:=by
     simp [G,stepG,stepG.exec,Frame.atR,hro]
   rw [h2,apply_skipD hkk e]
   rfl
theorem mkR_end (hK : MarkK P main Z KK) (hn : norm V = V) (hk : b.kind = .normal) (hro : b.roundOf = some l) (hl : V.heap[l]? = some (loopOf f T ps x y D .busy)) {ops : Array Oper} {i : Nat} {rest : List Nat} (h : KK d (G (bQ.at (aQ.put ((ops[i]?).bind (·.dst)) (.bool true)) (.inRegion ops rest :: kQ)) cs) (setM V l (loopOf f T ps x y D .ready))) : KK d (G (b.atR a []) (bQ.at aQ (.inRegion ops (i :: rest) :: kQ) :: cs)) V:=by
 refine markK_sem hK (s:=Instr.endRound l none) (v:=.bool true) (fn:=b.fn) sim_endRound (setM_norm hn _ _) (fun τ=>?_) rfl (fun w w' es e=>?_) h
 . simp [Instr.endRound,Instr.getLoop,getObj,setObj,re,loopOf,Sem.run,hl,setM]
 . rw [← Frame.finish_at]
   simp only [stepG,stepG.exec,Frame.atR,G,hro,e]
   simp [GStep.after,doReturn,hk]
theorem stepG_round {main : Bool} {w : World} {ops : Array Oper} {i : Nat} {rest : List Nat} {o : Oper} {T' : Array Value} (hk : b.kind ≠ .early) (ho : ops[i]? = some o) (hw : Region.wanted o (yielded ops a.tmps) = true) {es : Array Event} {w' : World} (h : (execOp a.eval o).runT P w #[] = (.ok (.round l f T' x y) w',es)) :
   stepG P main (G (b.at a (.inRegion ops (i :: rest) :: k)) cs) w = .go (G (Frame.round l f T' x y .normal) (b.at a (.inRegion ops (i :: rest) :: k) :: cs)) w' (seen P b.fn es):=by
 have hk' : (b.kind == CallKind.early) = false:=by simpa using hk
 have h1 : (execOp a.eval o).run P w = .ok (.round l f T' x y) w':=by rw [← Sem.runT_fst P _ w #[],h]
 have h2 : (execOp a.eval o).events P w #[] = es:=by unfold Sem.events; rw [h]
 rw [stepG_oper ho hw]
 simp [stepG.apply,h1,G,hk',GStep.after,h2,Frame.at]
theorem mk_yield (hK : MarkK P main Z KK) (hn : norm V = V) {ops : Array Oper} {i : Nat} {rest : List Nat} {o : Oper} {p : Tmp} {ce : Operand} {xs : Array Operand} {ats : Array TypeId} {u : Value} (hk : b.kind = .normal) (ho : ops[i]? = some o) (hw : Region.wanted o (yielded ops a.tmps) = true) (hop : o.op = .call { callee:=.value ce,args:=xs,argTypes:=ats }) (hc : a.eval ce = .func (.yield l) #[] #[]) (hxs : xs.map a.eval = #[u])
   (hl : V.heap[l]? = some (loopOf f T #[p] x y D st)) (h : KK d (G (Frame.round l f (T.setIfInBounds p u) x y .normal) (b.at a (.inRegion ops (i :: rest) :: k) :: cs)) V) : KK d (G (b.at a (.inRegion ops (i :: rest) :: k)) cs) V:=by
 have hev : execOp a.eval o = Instr.yield l #[u]:=by
   simp [execOp,hop,resolve,hc,hxs,Deferred.ofValue,invoke]
 refine markK_sem hK (s:=execOp a.eval o) (v:=.round l f (T.setIfInBounds p u) x y) (fn:=b.fn) (A:=fun _=>True) (by rw [hev]; exact sim_yield) hn (fun τ=>?_) rfl (fun w w' es e=>stepG_round (by rw [hk]; decide) ho hw e) h
 rw [hev]
 simp [Instr.yield,Instr.getLoop,getObj,re,loopOf,Sem.run,hl]
end
end
end Go.Proofs.Ytibcdikfbhmheaa
