import Derived.Test.YtibcdikfbhmheaaB02
set_option linter.unusedSimpArgs false
set_option linter.unusedVariables false
namespace Go.Proofs.Ytibcdikfbhmheaa
open Go
section
variable {P : Program} {Z : Cuts}
theorem Doom.sim {α : Type} {A : α -> Prop} {s : Sem α} (h : Doom P s) : SimOk P Z A s:=fun W w es hn hf=>h.out
def Looks {α : Type} (P : Program) (s : Sem α) : Prop:=∀ W,∃ a,s.run P W = .ok a W
theorem Looks.bind {α β : Type} {s : Sem α} {f : α -> Sem β} (h : Looks P s) (hf : ∀ a,Looks P (f a)) : Looks P (s >>= f):=fun W=>by
 obtain ⟨a,ha⟩:=h W
 obtain ⟨b,hb⟩:=hf a W
 refine ⟨b,?_⟩
 show (s.bind f).run P W = _
 rw [← Sem.runT_fst P (s.bind f) W #[],Go.Sem.runT_bind' P s f W #[]]
 simp only [Sem.runT_eq,ha,hb]
theorem looks_pure {α : Type} {a : α} : Looks P (pure a : Sem α):=fun W=>⟨a,rfl⟩
theorem looks_shape {r : Nat} : Looks P (shape r):=fun W=>⟨_,rfl⟩
theorem looks_frozen {a : Addr} : Looks P (frozen a):=fun W=>⟨_,rfl⟩
theorem looks_mark {m : Mark} : Looks P (mark m):=fun W=>⟨_,rfl⟩
theorem Looks.doom {α β : Type} {s : Sem α} {f : α -> Sem β} (h : Looks P s) (hf : ∀ a,Doom P (f a)) : Doom P (s >>= f):=fun W=>by
 obtain ⟨a,ha⟩:=h W
 obtain ⟨x,hx,hk⟩:=hf a W
 refine ⟨x,?_,hk⟩
 show (s.bind f).run P W = _
 rw [← Sem.runT_fst P (s.bind f) W #[],Go.Sem.runT_bind' P s f W #[]]
 simp only [Sem.runT_eq,ha,hx]
theorem looks_holdsCells {a : Addr} {n : Nat} : Looks P (Builtin.holdsCells a n):=by
 unfold Builtin.holdsCells
 refine looks_shape.bind fun s=>?_
 split <;> exact looks_pure
theorem looks_mayShare {a b c : Nat} {base : Option Addr} {x : Value} : Looks P (Builtin.mayShare a b c base x):=by
 unfold Builtin.mayShare
 repeat' (first | (with_reducible first|exact looks_pure|exact looks_holdsCells|exact looks_frozen) | (with_reducible refine Looks.bind ?_ (fun _=>?_)) | split | dsimp only)
theorem sim_append {a : Array TypeId} {t : TypeId} {args : Array Value} : SimOk P Z (fun _=>True) (Builtin.append_ a t args):=by
 unfold Builtin.append_
 dsimp only
 split
 . repeat' (first
     | with_reducible exact sim_pure trivial
     | with_reducible exact sim_stuck
     | with_reducible exact sim_underlying
     | with_reducible exact sim_sizeOf
     | with_reducible exact sim_typeInfo
     | with_reducible exact sim_zeroValue
     | with_reducible exact sim_asInt
     | with_reducible exact sim_lenOf
     | with_reducible exact sim_firstCells
     | with_reducible exact sim_runtimePanic
     | with_reducible exact sim_askRoom
     | with_reducible exact sim_newRow
     | with_reducible exact sim_storeCells
     | (with_reducible refine sim_choose (fun _=>?_))
     | (with_reducible refine Doom.sim (Looks.doom looks_mayShare (fun _=>?_)))
     | (with_reducible refine Looks.doom looks_mark (fun _=>?_))
     | (with_reducible exact doom_uns (by simp))
     | (with_reducible refine sim_bind (s:=runtimePanic _) (A:=fun _=>False) sim_runtimePanicA (fun _ h=>h.elim))
     | (with_reducible refine sim_bind (s:=Builtin.mayShare _ _ _ _ _ >>= _) (A:=fun _=>False) ?_ (fun _ h=>h.elim))
     | (with_reducible refine sim_bind (s:=ite _ (runtimePanic _) _) (A:=fun _=>False) ?_ (fun _ h=>h.elim))
     | with_reducible exact sim_runtimePanicA
     | (with_reducible refine sim_bind (A:=fun _=>True) ?_ (fun _ _=>?_))
     | (with_reducible refine sim_ite (fun _=>?_) (fun _=>?_))
     | split
     | dsimp only)
 . exact sim_stuck
theorem sim_copy {a : Array TypeId} {t : TypeId} {args : Array Value} : SimOk P Z (fun _=>True) (Builtin.copy_ a t args):=by
 unfold Builtin.copy_
 repeat' (first
   | with_reducible exact sim_pure trivial
   | with_reducible exact sim_stuck
   | with_reducible exact sim_underlying
   | with_reducible exact sim_sizeOf
   | with_reducible exact sim_lenOf
   | with_reducible exact sim_firstCells
   | with_reducible exact sim_storeCells
   | (with_reducible refine sim_bind (A:=fun _=>True) ?_ (fun _ _=>?_))
   | split
   | dsimp only)
theorem sim_min2 {x y : Value} : SimOk P Z (fun _=>True) (Builtin.min2 x y):=by
 unfold Builtin.min2
 repeat' (first | (with_reducible first|exact sim_pure trivial|exact sim_stuck) | exact sim_unsupported (by simp) | (with_reducible first|exact sim_stringOp|exact sim_asBool) | (with_reducible refine sim_choose (fun _=>?_)) | (with_reducible refine sim_bind (A:=fun _=>True) ?_ (fun _ _=>?_)) | split | dsimp only)
theorem sim_foldlM {α β : Type} {f : β -> α -> Sem β} (h : ∀ b a,SimOk P Z (fun _=>True) (f b a)) : ∀ {l : List α} {b : β},SimOk P Z (fun _=>True) (l.foldlM f b)
 | [],b=>by rw [List.foldlM_nil]; exact sim_pure trivial
 | a :: l,b=>by rw [List.foldlM_cons]; exact sim_bind (h b a) fun _ _=>sim_foldlM h
theorem sim_min {a : Array TypeId} {t : TypeId} {args : Array Value} : SimOk P Z (fun _=>True) (Builtin.min_ a t args):=by
 unfold Builtin.min_
 split
 . exact sim_stuck
 . exact sim_foldlM fun _ _=>sim_min2
theorem sim_max2 {x y : Value} : SimOk P Z (fun _=>True) (Builtin.max2 x y):=by
 unfold Builtin.max2
 repeat' (first | (with_reducible first|exact sim_pure trivial|exact sim_stuck) | exact sim_unsupported (by simp) | (with_reducible first|exact sim_stringOp|exact sim_asBool) | (with_reducible refine sim_choose (fun _=>?_)) | (with_reducible refine sim_bind (A:=fun _=>True) ?_ (fun _ _=>?_)) | split | dsimp only)
theorem sim_max {a : Array TypeId} {t : TypeId} {args : Array Value} : SimOk P Z (fun _=>True) (Builtin.max_ a t args):=by
 unfold Builtin.max_
 split
 . exact sim_stuck
 . exact sim_foldlM fun _ _=>sim_max2
theorem sim_floatToInt {k : FloatKind} {n : Nat} {d : IntKind} : SimOk P Z (fun _=>True) (Conv.floatToInt k n d):=by
 unfold Conv.floatToInt
 repeat' (first | with_reducible exact sim_pure trivial | (with_reducible refine sim_choose (fun _=>?_)) | (with_reducible refine sim_ite (fun _=>?_) (fun _=>?_)) | split | dsimp only)
def intTy (P : Program) (t : TypeId) : Bool:=match P.underlying t with | some (.int _)=>true | _=>false
theorem sim_convert {s d : TypeId} {x : Value} (hs : intTy P s = true) (hd : intTy P d = true) : SimOk P Z (fun _=>True) (convert s d x):=by
 unfold convert
 refine sim_bind sim_underlyingA fun S hS=>sim_bind sim_underlyingA fun D hD=>?_
 unfold intTy at hs hd
 rw [hS] at hs
 rw [hD] at hd
 cases S <;> first | cases hs | skip
 cases D <;> first | cases hd | skip
 cases x with
 | int k n=>exact sim_pure trivial
 | float k b=>exact sim_floatToInt
 | pointer p=>cases p <;> exact sim_unsupported (by simp)
 | _=>exact sim_unsupported (by simp)
theorem sim_makeChan {t : TypeId} {n : Value} : SimOk P Z (fun _=>True) (Instr.makeChan t n):=by
 unfold Instr.makeChan
 (repeat' (first | (with_reducible first|exact sim_pure trivial|exact sim_stuck|exact sim_panic|exact sim_runtimePanic|exact sim_boundsPanic|exact sim_load|exact sim_store|exact sim_numberAt|exact sim_typeInfo|exact sim_underlying|exact sim_zeroValue|exact sim_sizeOf|exact sim_isAgg|exact sim_loadCells|exact sim_storeCells|exact sim_loadVar|exact sim_storeVar|exact sim_newRow|exact sim_newVar|exact sim_part|exact sim_asIntOf|exact sim_asInt|exact sim_asBool|exact sim_asString|exact sim_asAgg|exact sim_asAddr|exact sim_sureAddr|exact sim_askRoom) | exact sim_unsupported (by simp) | exact sim_setObj (by simp) | exact sim_newObj (by simp) | (with_reducible refine sim_getObj ?_ ?_; (· exact fun _ _=>⟨_,rfl⟩); intro _) | (with_reducible refine sim_choose (fun _=>?_)) | (with_reducible refine sim_program ?_) | (with_reducible refine sim_bind (A:=fun _=>True) ?_ (fun _ _=>?_)) | (with_reducible refine sim_ite (fun _=>?_) (fun _=>?_)) | split | dsimp only))
def NextOk (L : List FuncId) : Next -> Prop
 | .value _ | .skip=>True
 | .enter f _=>f ∈ L
 | _=>False
def fnOk (P : Program) (g : FuncId) : Bool := (P.funcs[g]?).any fun fn => fn.body.isSome && fn.name != "runtime.NumGoroutine"
def nilOk (P : Program) (t : TypeId) : Operand -> Bool
 | .const (.pointer none)=>match P.underlying t with | some (.pointer _)=>true | _=>false
 | .const .nilFunc=>match P.underlying t with | some (.func _ _ _)=>true | _=>false
 | _=>false
def opOk (P : Program) (L : List FuncId) : Op -> Bool
 | .move _ | .assign _ | .pick .. | .alloc _ | .box .. | .build .. | .buildSlice .. | .load .. | .store .. | .nilCheck _ | .unOp .. | .makeFunc .. | .makeSlice .. | .makeChan .. | .slice .. | .field .. | .indexAddr .. | .index .. | .extract .. | .makeInterface ..=>true
 | .fieldAddr s _ f=>fieldOk P s f
 | .binOp op t x y _=>match op with
   | .eql | .neq=>eqTy P t || nilOk P t y
   | _=>true
 | .convert s d _=>intTy P s && intTy P d
 | .call c=>match c.callee with
   | .value (.func g)=>L.contains g && fnOk P g
   | .builtin .append | .builtin .len | .builtin .cap | .builtin .min | .builtin .max | .builtin .copy=>true
   | .builtin .delete=>(c.argTypes[0]?).any (mapOk P)
   | _=>false
 | .makeMap _ r=>r.isNone
 | .lookup t _ _ _=>mapOk P t
 | .mapUpdate t _ _ _=>mapOk P t
 | .range .. | .next .. | .entry ..=>true
 | _=>false
theorem sim_v {L : List FuncId} {s : Sem Value} (h : SimOk P Z (fun _=>True) s) : SimOk P Z (NextOk L) (do pure (.value (← s))):=sim_bind h fun _ _=>sim_pure trivial
theorem sim_u {L : List FuncId} {s : Sem Unit} (h : SimOk P Z (fun _=>True) s) : SimOk P Z (NextOk L) (do s; pure .skip):=sim_bind h fun _ _=>sim_pure trivial
theorem sim_callFunc {L : List FuncId} {g : FuncId} {args : Array Value} (hg : g ∈ L) (h : fnOk P g = true) : SimOk P Z (NextOk L) (callFunc g args):=by
 unfold callFunc
 refine sim_program ?_
 unfold fnOk at h
 cases hf : P.funcs[g]? with
 | none=>rw [hf] at h; cases h
 | some fn =>
   rw [hf] at h
   simp only [Option.any_some,Bool.and_eq_true,bne_iff_ne,ne_eq] at h
   dsimp only
   rw [if_neg (by simpa using h.2)]
   cases hb : fn.body with
   | none=>rw [hb] at h; cases h.1
   | some b =>
     simp only [Option.isNone_some,if_false,Bool.false_eq_true]
     exact sim_pure hg
end
theorem sim_execOp {P : Program} {Z : Cuts} {L : List FuncId} {o : Oper} {ρ : Operand -> Value} (hc : ∀ v,ρ (.const v) = v) (hfn : ∀ f,ρ (.func f) = .func (.func f) #[] #[]) (h : opOk P L o.op = true) : SimOk P Z (NextOk L) (execOp ρ o):=by
 unfold execOp
 cases ho : o.op with
 | move x=>exact sim_pure trivial
 | assign x=>exact sim_pure trivial
 | pick c a b=>refine sim_bind sim_asBool fun _ _=>?_; split <;> exact sim_pure trivial
 | alloc t=>exact sim_v sim_alloc
 | box t x=>exact sim_v sim_box
 | build t x=>exact sim_v sim_build
 | buildSlice t n x=>exact sim_v sim_buildSlice
 | load t x=>exact sim_v sim_loadAt
 | store t x v=>exact sim_u sim_storeAt
 | nilCheck x =>
   dsimp only
   repeat' (first | exact sim_pure (A:=NextOk L) trivial | with_reducible exact sim_runtimePanicA | exact sim_unsupported (by simp) | (with_reducible refine sim_program ?_) | (with_reducible refine sim_bind sim_nilAhead (fun _ _=>?_)) | (with_reducible refine sim_bind (A:=fun _=>True) ?_ (fun _ _=>?_)) | split | dsimp only)
 | unOp op t x=>exact sim_v sim_unary
 | makeFunc f x y=>exact sim_v (sim_pure trivial)
 | makeSlice t l c=>exact sim_v sim_makeSlice
 | makeChan t n=>exact sim_v sim_makeChan
 | makeMap t r =>
   rw [ho] at h
   cases r with
   | none=>exact sim_v sim_makeMap
   | some r=>cases h
 | lookup t x k c=>rw [ho] at h; exact sim_v (sim_lookup h)
 | mapUpdate t x k v=>rw [ho] at h; exact sim_u (sim_mapUpdate h)
 | range t x=>exact sim_v sim_range
 | next x b=>exact sim_v sim_next
 | entry x=>exact sim_v sim_entry
 | slice t x l h m=>exact sim_v sim_sliceAt
 | field t x i=>exact sim_v sim_field
 | indexAddr t x i=>exact sim_v sim_indexAt
 | index t x i=>exact sim_v sim_index
 | extract x i=>exact sim_v sim_extract
 | makeInterface t x=>exact sim_v sim_makeInterface
 | fieldAddr s x f=>rw [ho] at h; exact sim_v (sim_fieldAt h)
 | convert s d x =>
   rw [ho] at h
   simp only [opOk,Bool.and_eq_true] at h
   exact sim_v (sim_convert h.1 h.2)
 | binOp op t x y yt =>
   rw [ho] at h
   refine sim_v (sim_bind sim_eqGuard fun _ _=>sim_binOp fun he=>?_)
   have h' : (eqTy P t || nilOk P t y) = true:=by rcases he with rfl | rfl <;> exact h
   rcases Bool.or_eq_true_iff.1 h' with h1 | h1
   . exact sim_equal h1
   . unfold nilOk at h1
     split at h1
     . rw [hc]
       split at h1
       . exact sim_equal_nil ⟨_,by assumption⟩
       . cases h1
     . rw [hc]
       split at h1
       . exact sim_equal_nilf ⟨_,_,_,by assumption⟩
       . cases h1
     . cases h1
 | call c =>
   rw [ho] at h
   unfold opOk at h
   dsimp only at h
   have hres : ∀ (f : Callee),c.callee = f -> SimOk P Z (NextOk L) (do let d ← resolve ρ c o.type; invoke d.target d.args):=fun f hf=>by
     rw [hf] at h
     unfold resolve
     rw [hf]
     cases f with
     | invoke r m=>cases h
     | builtin b =>
       refine sim_bind (A:=fun d=>∃ args co,d = { target:=.builtin b c.argTypes o.type co,args:=args }) (sim_pure ⟨_,_,rfl⟩) fun d hd=>?_
       obtain ⟨args,co,rfl⟩:=hd
       show SimOk P Z (NextOk L) (builtin b c.argTypes o.type co args)
       cases b <;> first
         | (cases h; done)
         | exact sim_v sim_append
         | exact sim_v sim_len
         | exact sim_v sim_cap
         | exact sim_v sim_min
         | exact sim_v sim_max
         | exact sim_v sim_copy
         | (dsimp only at h
            cases ht : c.argTypes[0]? with
            | none=>rw [ht] at h; cases h
            | some t =>
              rw [ht] at h
              exact sim_v (sim_delete ht h))
     | value x =>
       cases x with
       | func g =>
         simp only [Bool.and_eq_true,List.contains_iff_mem] at h
         dsimp only
         rw [hfn]
         refine sim_bind (A:=fun d=>∃ args,d = { target:=.fn (.func g) #[],args:=args }) (sim_pure ⟨_,rfl⟩) fun d hd=>?_
         obtain ⟨args,rfl⟩:=hd
         exact sim_callFunc h.1 h.2
       | _=>cases h
   exact hres _ rfl
 | _=>rw [ho] at h; cases h
open Go Go.Conc
def codeOk (P : Program) (L : List FuncId) : Code -> Bool
 | .skip | .ret | .exit _=>true
 | .seq a b=>codeOk P L a && codeOk P L b
 | .cond _ a b=>codeOk P L a && codeOk P L b
 | .block _ c=>codeOk P L c
 | .loop c=>codeOk P L c
 | .region _ ops _=>ops.toList.all fun o=>opOk P L o.op
 | _=>false
def itemOk (P : Program) (L : List FuncId) : Item -> Bool
 | .code c=>codeOk P L c
 | .inBlock _=>true
 | .inLoop c=>codeOk P L c
 | .inRegion ops _=>ops.toList.all fun o=>opOk P L o.op
 | _=>false
def bodyOk (P : Program) (L : List FuncId) (f : FuncId) : Bool:=(P.funcs[f]?).any fun fn=>fn.body.any (codeOk P L)
structure FrOk (P : Program) (L : List FuncId) (fr : Frame) : Prop where
 todo : ∀ i ∈ fr.todo,itemOk P L i = true
 defers : fr.defers = []
 kind : fr.kind = .normal
 round : fr.roundOf = none
 fn : ∃ fn,P.funcs[fr.fn]? = some fn
structure Calm (P : Program) (L : List FuncId) : Prop where
 body : ∀ f ∈ L,bodyOk P L f = true
 ahead : P.follows .staticDataAhead = true
 step : ∀ g,P.globals.size <= g -> P.stepOf g = none
theorem FrOk.finish {P : Program} {L : List FuncId} {fr : Frame} (h : FrOk P L fr) (v : Value) : FrOk P L (fr.finish v) /\ (fr.finish v).mode = fr.mode:=by
 obtain ⟨h1,h2,h3,h4,h5⟩:=h
 unfold Frame.finish
 split
 . rename_i ops i rest k ht
   refine ⟨⟨fun x hx=>?_,h2,h3,h4,h5⟩,rfl⟩
   rcases List.mem_cons.1 hx with rfl | hx
   . have:=h1 (.inRegion ops (i :: rest)) (by rw [ht]; simp); exact this
   . exact h1 x (by rw [ht]; simp [hx])
 . rename_i ht; have:=h1 _ (by rw [ht]; exact List.mem_cons_self ..); cases this
 . rename_i ht; have:=h1 _ (by rw [ht]; exact List.mem_cons_self ..); cases this
 . rename_i ht; have:=h1 _ (by rw [ht]; exact List.mem_cons_self ..); cases this
 . rename_i ht; have:=h1 _ (by rw [ht]; exact List.mem_cons_self ..); cases this
 . exact ⟨⟨h1,h2,h3,h4,h5⟩,rfl⟩
theorem FrOk.form {P : Program} {L : List FuncId} {fr : Frame} (h : FrOk P L fr) (hm : fr.mode = .run) : fr = fr.at ⟨fr.tmps,[]⟩ fr.todo:=by
 obtain ⟨h1,h2,h3,h4,h5⟩:=h
 cases fr
 simp_all [Frame.at]
theorem FrOk.at {P : Program} {L : List FuncId} {b : Frame} {tmps : Array Value} {todo : List Item} (hk : b.kind = .normal) (hfn : ∃ fn,P.funcs[b.fn]? = some fn) (ht : ∀ i ∈ todo,itemOk P L i = true) : FrOk P L (b.at ⟨tmps,[]⟩ todo) :=
 ⟨ht,rfl,hk,rfl,hfn⟩
theorem FrOk.enter {P : Program} {L : List FuncId} (hP : Calm P L) {f : FuncId} (hf : f ∈ L) (args : Array Value) : FrOk P L (Frame.enter P f args .normal) /\ (Frame.enter P f args .normal).mode = .run:=by
 have h:=hP.body f hf
 unfold bodyOk at h
 cases hfn : P.funcs[f]? with
 | none=>rw [hfn] at h; cases h
 | some fn =>
   rw [hfn] at h
   simp only [Option.any_some] at h
   cases hb : fn.body with
   | none=>rw [hb] at h; cases h
   | some c =>
     rw [hb] at h
     refine ⟨⟨fun i hi=>?_,rfl,rfl,rfl,⟨fn,hfn⟩⟩,rfl⟩
     simp only [Frame.enter,hfn,Option.bind_some,hb,Option.getD_some,List.mem_singleton] at hi
     subst hi
     exact h
theorem mem_seen {P : Program} {fn : FuncId} {es : Array Event} {e : Event} (h : e ∈ seen P fn es) : e ∈ es:=by
 have key : ∀ (l : List Event) (q : Bool) (kept : Array Event) (f : Bool × Array Event -> Event -> Bool × Array Event),(∀ x e',(f x e').2 = x.2 ∨ (f x e').2 = x.2.push e') -> e ∈ (l.foldl f (q,kept)).2 -> e ∈ kept ∨ e ∈ l:=by
   intro l
   induction l with
   | nil=>intro q kept f _ h; exact .inl h
   | cons x l ih =>
     intro q kept f hf h
     simp only [List.foldl_cons] at h
     rcases ih (f (q,kept) x).1 (f (q,kept) x).2 f hf h with h1 | h1
     . rcases hf (q,kept) x with h2 | h2
       . rw [h2] at h1; exact .inl h1
       . rw [h2] at h1
         rcases Array.mem_push.1 h1 with h3 | h3
         . exact .inl h3
         . exact .inr (by simp [h3])
     . exact .inr (by simp [h1])
 unfold seen at h
 dsimp only at h
 rw [← Array.foldl_toList] at h
 rcases key es.toList _ _ _ (fun x e'=>by
   try dsimp only
   split
   . exact .inl rfl
   . split
     . exact .inl rfl
     . exact .inr rfl) h with h1 | h1
 . simp at h1
 . exact Array.mem_toList_iff.1 h1
def StepOut (P : Program) (L : List FuncId) (Z : Cuts) (main : Bool) (cs0 cs : List Frame) (g : List Frame -> Goroutine) (W w : World) : GStep -> Prop
 | .go g' W' _=>W.drawn <= W'.drawn /\ W'.tape = W.tape /\
     ((∃ fr' us',g' = G fr' (us' ++ cs0) /\ FrOk P L fr' /\ (fr'.mode = .run ∨ fr'.mode = .returning) /\ (∀ x ∈ us',FrOk P L x /\ x.mode = .run) /\
         (Ag w W W' -> ∃ w' es',stepG P main (g cs) w = .go (G fr' (us' ++ cs)) w' es' /\ Out P Z w W W' w' #[] #[] /\ ∀ e ∈ es',EvZ Z w'.heap.size e)) ∨
       ∃ fr' us' chain,g' = G fr' (us' ++ cs0) /\ fr'.mode = .panicking chain /\ FrOk P L fr' /\ ∀ x ∈ us',FrOk P L x /\ x.mode = .run)
 | .ended ..=>True
 | _=>False
section
variable {P : Program} {fr : Frame} {cs : List Frame} {s : Sem Next} {w w' : World} {es : Array Event}
theorem apply_value {v : Value} (hk : fr.kind = .normal) (h : s.runT P w #[] = (.ok (.value v) w',es)) : stepG.apply P true fr cs none s w = .go (G (fr.finish v) cs) w' (seen P fr.fn es):=by
 simp [stepG.apply,h,hk,GStep.after,G,-Sem.runT_eq]
theorem apply_skip (hk : fr.kind = .normal) (h : s.runT P w #[] = (.ok .skip w',es)) : stepG.apply P true fr cs none s w = .go (G (fr.finish undef) cs) w' (seen P fr.fn es):=by
 simp [stepG.apply,h,hk,GStep.after,G,-Sem.runT_eq]
theorem apply_enter {f : FuncId} {args : Array Value} {ops : Array Oper} {l : List Nat} {k : List Item} (hk : fr.kind = .normal) (ht : fr.todo = .inRegion ops l :: k) (h : s.runT P w #[] = (.ok (.enter f args) w',es)) : stepG.apply P true fr cs none s w = .go (G (Frame.enter P f args .normal) (fr :: cs)) w' (seen P fr.fn es):=by
 simp [stepG.apply,h,hk,ht,GStep.after,G,-Sem.runT_eq]
theorem apply_panic {v : Value} (hk : fr.kind = .normal) (h : s.runT P w #[] = (.halt (.panic v) w',es)) : stepG.apply P true fr cs none s w = .go (G (fr.raise [{ v,recovered:=false }]) cs) w' (seen P fr.fn es):=by
 simp [stepG.apply,h,hk,GStep.after,G,-Sem.runT_eq]
end
section
variable {P : Program} {L : List FuncId} {Z : Cuts} {main main0 : Bool} {W w : World} {us cs cs0 : List Frame}
theorem stepOut_still {b : Frame} {tmps : Array Value} {t t' : List Item} (hn : norm W = pz Z w) (hf : Fit P Z w) (hk : b.kind = .normal) (hfn : ∃ fn,P.funcs[b.fn]? = some fn) (ht : ∀ i ∈ t',itemOk P L i = true) (hus : ∀ x ∈ us,FrOk P L x /\ x.mode = .run)
   (h : ∀ (mn : Bool) cs w,stepG P mn (G (b.at ⟨tmps,[]⟩ t) cs) w = .go (G (b.at ⟨tmps,[]⟩ t') cs) w) :
   StepOut P L Z main cs0 cs (fun c=>G (b.at ⟨tmps,[]⟩ t) (us ++ c)) W w (stepG P main0 (G (b.at ⟨tmps,[]⟩ t) (us ++ cs0)) W):=by
 rw [h]
 exact ⟨Nat.le_refl _,rfl,.inl ⟨_,us,rfl,FrOk.at hk hfn ht,.inl rfl,hus,fun _=>⟨w,#[],h _ _ _,Out.id hn hf _,by simp⟩⟩⟩
theorem exitTo_mem {id : Nat} : ∀ {k k' : List Item},exitTo id k = some k' -> ∀ i ∈ k',i ∈ k
 | [],_,h=>by simp [exitTo] at h
 | x :: k,k',h=>by
   intro i hi
   cases x with
   | inBlock j =>
     simp only [exitTo] at h
     split at h
     . obtain rfl:=Option.some.inj h; exact List.mem_cons_of_mem _ hi
     . exact List.mem_cons_of_mem _ (exitTo_mem h i hi)
   | _=>simp only [exitTo] at h; exact List.mem_cons_of_mem _ (exitTo_mem h i hi)
theorem apply_sim (hP : Calm P L) (hn : norm W = pz Z w) (hf : Fit P Z w) {fr : Frame} {ops : Array Oper} {l : List Nat} {k : List Item} (hfr : FrOk P L fr) (hm : fr.mode = .run) (htd : fr.todo = .inRegion ops l :: k) (hus : ∀ x ∈ us,FrOk P L x /\ x.mode = .run) {s : Sem Next} (hs : SimOk P Z (NextOk L) s)
   (h : ∀ (mn : Bool) cs w,stepG P mn (G fr cs) w = stepG.apply P true fr cs none s w) :
   StepOut P L Z main cs0 cs (fun c=>G fr (us ++ c)) W w (stepG P main0 (G fr (us ++ cs0)) W):=by
 have hk:=hfr.kind
 have hsim:=hs W w #[] hn hf
 have hrt:=Sem.runT_fst P s W #[]
 rw [h]
 obtain ⟨⟨r,esW⟩,hrW⟩ : ∃ x,x = s.runT P W #[]:=⟨_,rfl⟩
 rw [← hrW] at hrt
 replace hrt : r = s.run P W:=hrt
 rw [← hrt] at hsim
 have evs : ∀ {w' : World} {es' : Array Event} {W' : World},Out P Z w W W' w' #[] es' -> Out P Z w W W' w' #[] #[] /\ ∀ e ∈ seen P fr.fn es',EvZ Z w'.heap.size e:=fun o=>by
   obtain ⟨u,hu,hu'⟩:=o.evs
   refine ⟨⟨o.rl,o.fit,o.hid,o.drawn,#[],by simp,by simp⟩,fun e he=>hu' e ?_⟩
   have:=mem_seen he
   rw [hu] at this
   simpa using this
 cases r with
 | ok nx W' =>
   obtain ⟨hnx,hd,ht,hgo⟩:=hsim
   cases nx with
   | value v =>
     rw [apply_value hk hrW.symm]
     refine ⟨hd,ht,.inl ⟨_,us,rfl,(hfr.finish v).1,.inl ((hfr.finish v).2.trans hm),hus,fun hag=>?_⟩⟩
     obtain ⟨w',es',e,o⟩:=hgo hag
     exact ⟨w',_,(h _ _ _).trans (apply_value hk e),(evs o).1,(evs o).2⟩
   | skip =>
     rw [apply_skip hk hrW.symm]
     refine ⟨hd,ht,.inl ⟨_,us,rfl,(hfr.finish undef).1,.inl ((hfr.finish undef).2.trans hm),hus,fun hag=>?_⟩⟩
     obtain ⟨w',es',e,o⟩:=hgo hag
     exact ⟨w',_,(h _ _ _).trans (apply_skip hk e),(evs o).1,(evs o).2⟩
   | enter f args =>
     rw [apply_enter hk htd hrW.symm]
     obtain ⟨h1,h2⟩:=FrOk.enter hP hnx args
     refine ⟨hd,ht,.inl ⟨_,fr :: us,rfl,h1,.inl h2,fun x hx=>?_,fun hag=>?_⟩⟩
     . rcases List.mem_cons.1 hx with rfl | hx
       . exact ⟨hfr,hm⟩
       . exact hus x hx
     . obtain ⟨w',es',e,o⟩:=hgo hag
       exact ⟨w',_,(h _ _ _).trans (apply_enter hk htd e),(evs o).1,(evs o).2⟩
   | _=>exact hnx.elim
 | halt x W' =>
   cases x with
   | panic v =>
     obtain ⟨hd,ht,hgo⟩:=hsim
     have hra : ∀ c,fr.raise c = { fr with mode:=.panicking c }:=fun c=>by simp [Frame.raise,hm]
     rw [apply_panic hk hrW.symm,hra]
     exact ⟨hd,ht,.inr ⟨_,us,_,rfl,rfl,⟨hfr.todo,hfr.defers,hfr.kind,hfr.round,hfr.fn⟩,hus⟩⟩
   | stuck m=>simp [stepG.apply,← hrW,GStep.after,StepOut,-Sem.runT_eq]
   | unsupported u =>
     cases u with
     | initOrder g =>
       simp [stepG.apply,← hrW,GStep.after,early,hP.ahead,hP.step g hsim,StepOut,-Sem.runT_eq]
     | _=>simp [stepG.apply,← hrW,GStep.after,StepOut,-Sem.runT_eq]
   | _=>exact hsim.elim
theorem step_sim_run (hP : Calm P L) (hn : norm W = pz Z w) (hf : Fit P Z w) {b : Frame} {tmps : Array Value} {t : List Item} (hk : b.kind = .normal) (hfn : ∃ fn,P.funcs[b.fn]? = some fn) (ht : ∀ i ∈ t,itemOk P L i = true) (hus : ∀ x ∈ us,FrOk P L x /\ x.mode = .run) :
   StepOut P L Z main cs0 cs (fun c=>G (b.at ⟨tmps,[]⟩ t) (us ++ c)) W w (stepG P main0 (G (b.at ⟨tmps,[]⟩ t) (us ++ cs0)) W):=by
 have rest : ∀ (i : Item) (k : List Item),t = i :: k -> ∀ x ∈ k,itemOk P L x = true:=fun i k e x hx=>ht x (by rw [e]; exact List.mem_cons_of_mem _ hx)
 have ret : ∀ (mn : Bool) cs w,(t = [] ∨ ∃ k,t = .code .ret :: k) -> stepG P mn (G (b.at ⟨tmps,[]⟩ t) cs) w = .go (G { b.at ⟨tmps,[]⟩ t with mode:=.returning } cs) w:=fun mn cs w h=>by
   rcases h with rfl | ⟨k,rfl⟩ <;> simp [G,stepG,stepG.exec,Frame.at]
 have ret' : (t = [] ∨ ∃ k,t = .code .ret :: k) -> StepOut P L Z main cs0 cs (fun c=>G (b.at ⟨tmps,[]⟩ t) (us ++ c)) W w (stepG P main0 (G (b.at ⟨tmps,[]⟩ t) (us ++ cs0)) W):=fun h=>by
   rw [ret _ _ _ h]
   exact ⟨Nat.le_refl _,rfl,.inl ⟨_,us,rfl,⟨ht,rfl,hk,rfl,hfn⟩,.inr rfl,hus,fun _=>⟨w,#[],ret _ _ _ h,Out.id hn hf _,by simp⟩⟩⟩
 clear ret
 match t,ht,rest,ret' with
 | [],_,_,ret'=>exact ret' (.inl rfl)
 | .code .ret :: k,_,_,ret'=>exact ret' (.inr ⟨k,rfl⟩)
 | .code .skip :: k,_,rest,_=>exact stepOut_still hn hf hk hfn (rest _ _ rfl) hus fun mn cs w=>stepG_skip
 | .inBlock id :: k,_,rest,_=>exact stepOut_still hn hf hk hfn (rest _ _ rfl) hus fun mn cs w=>stepG_inBlock
 | .code (.seq x y) :: k,ht,rest,_ =>
   refine stepOut_still hn hf hk hfn (t':=.code x :: .code y :: k) (fun i hi=>?_) hus fun mn cs w=>stepG_seq
   have h:=ht _ (List.mem_cons_self ..)
   simp only [itemOk,codeOk,Bool.and_eq_true] at h
   simp only [List.mem_cons] at hi
   rcases hi with rfl | rfl | hi
   . exact h.1
   . exact h.2
   . exact rest _ _ rfl i hi
 | .code (.cond c x y) :: k,ht,rest,_ =>
   have h:=ht _ (List.mem_cons_self ..)
   simp only [itemOk,codeOk,Bool.and_eq_true] at h
   cases hv : Act.eval ⟨tmps,[]⟩ c with
   | bool v =>
     refine stepOut_still hn hf hk hfn (t':=.code (if v then x else y) :: k) (fun i hi=>?_) hus fun mn cs w=>stepG_cond hv
     rcases List.mem_cons.1 hi with rfl | hi
     . cases v
       . exact h.2
       . exact h.1
     . exact rest _ _ rfl i hi
   | _ =>
     have he : (b.at ⟨tmps,[]⟩ (.code (.cond c x y) :: k)).eval c = _:=(Frame.eval_at b ⟨tmps,[]⟩ _ c).trans hv
     simp only [Frame.at] at he
     simp [G,stepG,stepG.exec,Frame.at,he,StepOut]
 | .code (.block id c) :: k,ht,rest,_ =>
   refine stepOut_still hn hf hk hfn (t':=.code c :: .inBlock id :: k) (fun i hi=>?_) hus fun mn cs w=>stepG_block
   have h:=ht _ (List.mem_cons_self ..)
   simp only [List.mem_cons] at hi
   rcases hi with rfl | rfl | hi
   . exact h
   . rfl
   . exact rest _ _ rfl i hi
 | .code (.loop c) :: k,ht,rest,_ =>
   refine stepOut_still hn hf hk hfn (t':=.code c :: .inLoop c :: k) (fun i hi=>?_) hus fun mn cs w=>stepG_loop
   have h:=ht _ (List.mem_cons_self ..)
   simp only [List.mem_cons] at hi
   rcases hi with rfl | rfl | hi
   . exact h
   . exact h
   . exact rest _ _ rfl i hi
 | .inLoop c :: k,ht,rest,_ =>
   refine stepOut_still hn hf hk hfn (t':=.code c :: .inLoop c :: k) (fun i hi=>?_) hus fun mn cs w=>stepG_inLoop
   have h:=ht _ (List.mem_cons_self ..)
   simp only [List.mem_cons] at hi
   rcases hi with rfl | rfl | hi
   . exact h
   . exact h
   . exact rest _ _ rfl i hi
 | .code (.exit id) :: k,ht,rest,_ =>
   cases hx : exitTo id k with
   | some k'=>exact stepOut_still hn hf hk hfn (t':=k') (fun i hi=>rest _ _ rfl i (exitTo_mem hx i hi)) hus fun mn cs w=>stepG_exit hx
   | none=>simp [G,stepG,stepG.exec,Frame.at,hx,StepOut]
 | .code (.region id ops draw) :: k,ht,rest,_ =>
   have h:=ht _ (List.mem_cons_self ..)
   have hok : ∀ l,∀ i ∈ Item.inRegion ops l :: k,itemOk P L i = true:=fun l i hi=>by
     rcases List.mem_cons.1 hi with rfl | hi
     . exact h
     . exact rest _ _ rfl i hi
   cases draw with
   | false=>exact stepOut_still hn hf hk hfn (hok _) hus fun mn cs w=>stepG_region
   | true =>
     have hd : ∀ (mn : Bool) cs (w : World),stepG P mn (G (b.at ⟨tmps,[]⟩ (.code (.region id ops true) :: k)) cs) w = .go (G (b.at ⟨tmps,[]⟩ (.inRegion ops (Region.schedule (P.follows .mixedOrders) ops (w.tape w.drawn (.order b.fn id))) :: k)) cs) { w with drawn:=w.drawn + 1 }:=fun mn cs w=>by
       simp [G,stepG,stepG.exec,Frame.at,choose,Sem.run,Question.forced,Question.cut]
     rw [hd]
     refine ⟨Nat.le_succ _,rfl,.inl ⟨_,us,rfl,FrOk.at hk hfn (hok _),.inl rfl,hus,fun hag=>⟨{ w with drawn:=w.drawn + 1 },#[],?_,?_,by simp⟩⟩⟩
     . have e:=hag 0 (show W.drawn + 0 < W.drawn + 1 by omega) (.order b.fn id)
       simp only [Nat.add_zero] at e
       rw [hd,e]
     . exact ⟨hn,⟨hf.cut,hf.rows,hf.chans,hf.glob,hf.bad⟩,⟨fun _ _ _ _ h _=>h,fun _ _ _ _ c _ _ _ h=>⟨c,h,rfl,fun _ _=>rfl⟩,Nat.le_refl _,rfl,fun _ _ _ h=>h,rfl,rfl⟩,by show w.drawn + 1 + W.drawn = w.drawn + (W.drawn + 1); omega,#[],by simp,by simp⟩
 | .inRegion ops [] :: k,ht,rest,_=>exact stepOut_still hn hf hk hfn (rest _ _ rfl) hus fun mn cs w=>stepG_region_end
 | .inRegion ops (i :: l) :: k,ht,rest,_ =>
   have hfr : FrOk P L (b.at ⟨tmps,[]⟩ (.inRegion ops (i :: l) :: k)):=FrOk.at hk hfn ht
   by_cases hw : ((ops[i]?).map (Region.wanted · (yielded ops tmps))).getD false = true
   . cases ho : ops[i]? with
     | none=>rw [ho] at hw; cases hw
     | some o =>
       rw [ho] at hw
       replace hw : Region.wanted o (yielded ops tmps) = true:=hw
       have hok : opOk P L o.op = true:=by
         have:=ht _ (List.mem_cons_self ..)
         simp only [itemOk,List.all_eq_true] at this
         exact this o (by rw [Array.mem_toList_iff]; exact Array.mem_of_getElem? ho)
       exact apply_sim hP hn hf hfr rfl rfl hus (sim_execOp (o:=o) (ρ:=Act.eval ⟨tmps,[]⟩) (fun _=>rfl) (fun _=>rfl) hok) fun mn cs w=>stepG_oper ho hw
   . have hu : ∀ (mn : Bool) cs w,stepG P mn (G (b.at ⟨tmps,[]⟩ (.inRegion ops (i :: l) :: k)) cs) w = .go (G ((b.at ⟨tmps,[]⟩ (.inRegion ops (i :: l) :: k)).finish undef) cs) w:=fun mn cs w=>by
       simp only [Bool.not_eq_true] at hw
       have hw' : ((ops[i]?).map (Region.wanted · (yielded ops (b.at ⟨tmps,[]⟩ (.inRegion ops (i :: l) :: k)).tmps))).getD false = false:=hw
       simp [G,stepG,stepG.exec,Frame.at] at hw' ⊢
       simp [hw']
     rw [hu]
     exact ⟨Nat.le_refl _,rfl,.inl ⟨_,us,rfl,(hfr.finish undef).1,.inl (hfr.finish undef).2,hus,fun _=>⟨w,#[],hu _ _ _,Out.id hn hf _,by simp⟩⟩⟩
 | .code (.scope _) :: _,ht,_,_=>exact absurd (ht _ (List.mem_cons_self ..)) (by simp [itemOk,codeOk])
 | .code (.goto _) :: _,ht,_,_=>exact absurd (ht _ (List.mem_cons_self ..)) (by simp [itemOk,codeOk])
 | .code (.label _) :: _,ht,_,_=>exact absurd (ht _ (List.mem_cons_self ..)) (by simp [itemOk,codeOk])
 | .code (.rangeFunc _ _ _ _) :: _,ht,_,_=>exact absurd (ht _ (List.mem_cons_self ..)) (by simp [itemOk,codeOk])
 | .code (.refuse _) :: _,ht,_,_=>exact absurd (ht _ (List.mem_cons_self ..)) (by simp [itemOk,codeOk])
 | .inScope _ :: _,ht,_,_=>exact absurd (ht _ (List.mem_cons_self ..)) (by simp [itemOk])
 | .inRangeFunc _ :: _,ht,_,_=>exact absurd (ht _ (List.mem_cons_self ..)) (by simp [itemOk])
 | .endRangeFunc _ :: _,ht,_,_=>exact absurd (ht _ (List.mem_cons_self ..)) (by simp [itemOk])
 | .beginRound :: _,ht,_,_=>exact absurd (ht _ (List.mem_cons_self ..)) (by simp [itemOk])
 | .call _ _ _ _ :: _,ht,_,_=>exact absurd (ht _ (List.mem_cons_self ..)) (by simp [itemOk])
 | .extern _ _ :: _,ht,_,_=>exact absurd (ht _ (List.mem_cons_self ..)) (by simp [itemOk])
theorem sim_results {fn : Func} {tmps : Array Value} : SimOk P Z (fun _=>True) (results fn tmps):=by
 unfold results
 refine sim_bind (A:=fun _=>True) (sim_amapM fun x _=>?_) fun _ _=>sim_pure trivial
 cases x with
 | tmp t=>exact sim_pure trivial
 | cell a t=>exact sim_bind (A:=fun _=>True) sim_asAddr fun _ _=>sim_loadVar
theorem ret_sim (hn : norm W = pz Z w) (hf : Fit P Z w) {fr : Frame} (hfr : FrOk P L fr) (hm : fr.mode = .returning) :
   (∃ v W' esW,W.drawn <= W'.drawn /\ W'.tape = W.tape /\ (∀ (mn : Bool) c cs,stepG P mn (G fr (c :: cs)) W = .go (G (c.finish v) cs) W' esW) /\
     (Ag w W W' -> ∃ w' es',(∀ (mn : Bool) c cs,stepG P mn (G fr (c :: cs)) w = .go (G (c.finish v) cs) w' es') /\ Out P Z w W W' w' #[] #[] /\ ∀ e ∈ es',EvZ Z w'.heap.size e)) ∨
   ∀ (mn : Bool) c cs,∃ o W' es,stepG P mn (G fr (c :: cs)) W = .ended o W' es:=by
 obtain ⟨h1,h2,h3,h4,fn,h5⟩:=hfr
 have hsim:=sim_results (fn:=fn) (tmps:=fr.tmps) W w #[] hn hf
 have hrt:=Sem.runT_fst P (results fn fr.tmps) W #[]
 obtain ⟨⟨r,esW⟩,hrW⟩ : ∃ x,x = (results fn fr.tmps).runT P W #[]:=⟨_,rfl⟩
 rw [← hrW] at hrt
 replace hrt : r = (results fn fr.tmps).run P W:=hrt
 rw [← hrt] at hsim
 have hstep : ∀ {w w' : World} {es : Array Event} {v : Value},(results fn fr.tmps).runT P w #[] = (.ok v w',es) -> ∀ (mn : Bool) c cs,stepG P mn (G fr (c :: cs)) w = .go (G (c.finish v) cs) w' (seen P fr.fn es):=fun h mn c cs=>by
   simp [G,stepG,unwind,hm,h2,h5,h,doReturn,h3,GStep.after,-Sem.runT_eq]
 cases r with
 | ok v W' =>
   obtain ⟨_,hd,ht,hgo⟩:=hsim
   refine .inl ⟨v,W',_,hd,ht,hstep hrW.symm,fun hag=>?_⟩
   obtain ⟨w',es',e,o⟩:=hgo hag
   obtain ⟨u,hu,hu'⟩:=o.evs
   refine ⟨w',_,hstep e,⟨o.rl,o.fit,o.hid,o.drawn,#[],by simp,by simp⟩,fun e he=>hu' e ?_⟩
   have:=mem_seen he
   rw [hu] at this
   simpa using this
 | halt x W' =>
   refine .inr fun mn c cs=>?_
   cases x with
   | stuck m=>exact ⟨_,_,_,by simp [G,stepG,unwind,hm,h2,h5,← hrW,GStep.after,-Sem.runT_eq]; exact ⟨rfl,rfl,rfl⟩⟩
   | _=>exact ⟨_,_,_,by simp [G,stepG,unwind,hm,h2,h5,← hrW,GStep.after,-Sem.runT_eq]; exact ⟨rfl,rfl,rfl⟩⟩
theorem step_sim (hP : Calm P L) (hn : norm W = pz Z w) (hf : Fit P Z w) {fr : Frame} (hfr : FrOk P L fr) (hm : fr.mode = .run ∨ fr.mode = .returning /\ us ≠ []) (hus : ∀ x ∈ us,FrOk P L x /\ x.mode = .run) :
   StepOut P L Z main cs0 cs (fun c=>G fr (us ++ c)) W w (stepG P main0 (G fr (us ++ cs0)) W):=by
 rcases hm with hm | ⟨hm,hne⟩
 . have h:=step_sim_run (main:=main) (main0:=main0) (cs:=cs) (cs0:=cs0) hP hn hf (b:=fr) (tmps:=fr.tmps) (t:=fr.todo) hfr.kind hfr.fn hfr.todo hus
   rwa [← hfr.form hm] at h
 . obtain ⟨c,us,rfl⟩ : ∃ c us',us = c :: us':=by cases us with
     | nil=>exact absurd rfl hne
     | cons c us'=>exact ⟨_,_,rfl⟩
   have hc:=hus c (List.mem_cons_self ..)
   rcases ret_sim hn hf hfr hm with ⟨v,W',esW,hd,ht,h1,h2⟩ | h
   . simp only [List.cons_append]
     rw [h1]
     refine ⟨hd,ht,.inl ⟨_,us,rfl,(hc.1.finish v).1,.inl ((hc.1.finish v).2.trans hc.2),fun x hx=>hus x (List.mem_cons_of_mem _ hx),fun hag=>?_⟩⟩
     obtain ⟨w',es',e,o,q⟩:=h2 hag
     exact ⟨w',es',e _ _ _,o,q⟩
   . simp only [List.cons_append]
     obtain ⟨o,W',es',e⟩:=h main0 c (us ++ cs0)
     rw [e]
     trivial
end
abbrev Tp:=Nat -> Question -> Nat
def frC (P : Program) : Frame := { fn := P.funcs.size, tmps := #[], todo := [.call default false "fmt's door zz" #[]], defers := [], mode := .run, kind := .normal }
def Upto (d : Nat) (ρ τ : Tp) : Prop:=∀ p,p < d -> ∀ q,τ p q = ρ p q
structure LV (P : Program) (V : World) : Prop where
 nrm : norm V = V
 bad : ∀ (b : Nat) (a : Addr) (u : TypeId),V.heap[b]? = some (Obj.view a u) -> u = tBad
 fit : Fit P (fun _=>none) V
structure OkS (P : Program) (L : List FuncId) (fr : Frame) (us : List Frame) : Prop where
 ok : FrOk P L fr
 mode : fr.mode = .run ∨ fr.mode = .returning
 us : ∀ x ∈ us,FrOk P L x /\ x.mode = .run
inductive WL (P : Program) (L : List FuncId) (R : Value -> World -> Prop) : Frame -> List Frame -> World -> Nat -> Tp -> Prop
 | ret {fr : Frame} {V : World} {d : Nat} {ρ : Tp} (ok : OkS P L fr []) (hm : fr.mode = .returning)
     (h : ∀ τ,Upto d ρ τ -> ∃ v W' es,stepG P true (G fr [frC P]) (re V τ d) = .go (G ((frC P).finish v) []) W' es /\ R v (norm W')) : WL P L R fr [] V d ρ
 | step {fr : Frame} {us : List Frame} {V : World} {d : Nat} {ρ : Tp} (ok : OkS P L fr us) (hm : fr.mode = .run ∨ us ≠ [])
     (h : ∀ τ,Upto d ρ τ -> ∃ fr' us' W' es,stepG P true (G fr (us ++ [frC P])) (re V τ d) = .go (G fr' (us' ++ [frC P])) W' es)
     (h' : ∀ τ fr' us' W' es,Upto d ρ τ -> stepG P true (G fr (us ++ [frC P])) (re V τ d) = .go (G fr' (us' ++ [frC P])) W' es -> WL P L R fr' us' (norm W') W'.drawn τ) : WL P L R fr us V d ρ
def Well (P : Program) (R : Value -> World -> Prop) (m : Machine) : Prop:=∃ n v w',runN P n m = .next (lone ((frC P).finish v) [] w') /\ R v (norm w')
section
variable {P : Program} {L : List FuncId} {R : Value -> World -> Prop}
theorem LV.self {V : World} (h : LV P V) : pz (fun _=>none) V = V:=by
 have e : V.heap.mapIdx (fun b o=>pobj none o) = V.heap:=by
   apply Array.ext_getElem?
   intro b
   rw [Array.getElem?_mapIdx]
   cases ho : V.heap[b]? with
   | none=>rfl
   | some o=>cases o with
     | view a u=>rw [h.bad b a u ho]; rfl
     | _=>rfl
 have h1 : norm V = V:=h.nrm
 unfold pz
 rw [e]
 exact h1
theorem LV.rl {V : World} (h : LV P V) (τ τ' : Tp) (d d' : Nat) : norm (re V τ d) = pz (fun _=>none) (re V τ' d'):=by
 rw [pz_re,h.self]
 exact h.nrm
theorem LV.of_out {V : World} (h : LV P V) {W W' w' : World} {τ : Tp} {d : Nat} {es es' : Array Event} (o : Out P (fun _=>none) (re V τ d) W W' w' es es') : norm W' = norm w' /\ LV P (norm W'):=by
 have hb : ∀ (b : Nat) (a : Addr) (u : TypeId),w'.heap[b]? = some (Obj.view a u) -> u = tBad:=fun b a u hv=>h.bad b a u (o.hid.view b a u hv)
 have e : pz (fun _=>none) w' = norm w':=by
   have e : w'.heap.mapIdx (fun b o=>pobj none o) = w'.heap:=by
     apply Array.ext_getElem?
     intro b
     rw [Array.getElem?_mapIdx]
     cases ho : w'.heap[b]? with
     | none=>rfl
     | some o=>cases o with
       | view a u=>rw [hb b a u ho]; rfl
       | _=>rfl
   show World.mk .. = World.mk ..
   rw [e]
 have e1 : norm W' = norm w':=o.rl.trans e
 rw [e1]
 exact ⟨rfl,rfl,hb,⟨o.fit.cut,o.fit.rows,o.fit.chans,o.fit.glob,o.fit.bad⟩⟩
theorem re_norm (w : World) : re (norm w) w.tape w.drawn = w:=rfl
theorem runN_ended {m : Machine} {o : Outcome} {w : World} (h : step P m = .ended o w) {n : Nat} {m' : Machine} (hr : runN P n m = .next m') : m' = m:=by
 cases n with
 | zero=>simpa [runN] using hr.symm
 | succ n=>simp [runN,h] at hr
theorem step_of_go {fr fr' : Frame} {cs cs' : List Frame} {w w' : World} {es : Array Event} (h : stepG P true (G fr cs) w = .go (G fr' cs') w' es) : step P (lone fr cs w) = .next (lone fr' cs' w') :=
 step_lone_go (by show (stepG P true (G fr cs) w).bare = _; rw [h]; rfl)
theorem step_of_ended {fr : Frame} {cs : List Frame} {w w' : World} {o : Outcome} {es : Array Event} (h : stepG P true (G fr cs) w = .ended o w' es) : step P (lone fr cs w) = .ended o w' :=
 step_lone_ended (by show (stepG P true (G fr cs) w).bare = _; rw [h]; rfl)
theorem lone_frC (v : Value) (w : World) : ∃ o,step P (lone ((frC P).finish v) [] w) = .ended o w:=by
 have h : Extern.next "fmt's door zz" = none := by kernel_rfl
 have e : ∃ o,stepG P true (G ((frC P).finish v) []) w = .ended o w #[]:=by
   simp [frC,Frame.finish,stepG,stepG.exec,h,G]
 obtain ⟨o,e⟩:=e
 exact ⟨o,step_of_ended e⟩
theorem panic_lost : ∀ {us : List Frame} {fr : Frame} {chain : List PanicEntry} {W : World} {n : Nat} {v : Value} {w' : World},FrOk P L fr -> fr.mode = .panicking chain -> (∀ x ∈ us,FrOk P L x /\ x.mode = .run) -> runN P n (lone fr (us ++ [frC P]) W) ≠ .next (lone ((frC P).finish v) [] w'):=by
 intro us
 induction us with
 | nil =>
   intro fr chain W n v w' hfr hm _ hr
   obtain ⟨h1,h2,h3,h4,fn,h5⟩:=hfr
   cases n with
   | zero=>simp [runN,lone] at hr
   | succ n =>
     have e : stepG P true (G fr [frC P]) W = .go (G ((frC P).raise chain) []) W:=by
       have hc : fr.catches P = false:=by simp [Frame.catches,h5]
       simp [G,stepG,unwind,hm,h2,hc]
     simp only [List.nil_append] at hr
     rw [runN,step_of_go e] at hr
     cases n with
     | zero=>simp [runN,lone,frC,Frame.raise,Frame.finish] at hr
     | succ n =>
       have hc : ((frC P).raise chain).catches P = true:=by simp [Frame.catches,frC,Frame.raise]
       have e2 : ∃ o,stepG P true (G ((frC P).raise chain) []) W = .ended o W #[]:=by
         refine ⟨Outcome.unsupported (.noEntry "a panic or Goexit out of a method that fmt calls behind a cut's door") (((frC P).raise chain).pos P), ?_⟩
         have hm2 : ((frC P).raise chain).mode = .panicking chain:=by simp [frC,Frame.raise]
         have hd2 : ((frC P).raise chain).defers = []:=by simp [frC,Frame.raise]
         simp [G,stepG,unwind,hc,hm2,hd2]
       obtain ⟨o,e2⟩:=e2
       have he2:=step_of_ended e2
       replace hr : runN P (n + 1) (lone ((frC P).raise chain) [] W) = .next (lone ((frC P).finish v) [] w'):=hr
       simp [runN,he2] at hr
 | cons c us ih =>
   intro fr chain W n v w' hfr hm hus hr
   obtain ⟨h1,h2,h3,h4,fn,h5⟩:=hfr
   obtain ⟨hc1,hc2⟩:=hus c (List.mem_cons_self ..)
   cases n with
   | zero=>simp [runN,lone] at hr
   | succ n =>
     have e : stepG P true (G fr (c :: us ++ [frC P])) W = .go (G (c.raise chain) (us ++ [frC P])) W:=by
       have hc : fr.catches P = false:=by simp [Frame.catches,h5]
       simp [G,stepG,unwind,hm,h2,hc]
     rw [runN,step_of_go e] at hr
     have hra : c.raise chain = { c with mode:=.panicking chain }:=by simp [Frame.raise,hc2]
     rw [hra] at hr
     replace hr : runN P n (lone { c with mode:=.panicking chain } (us ++ [frC P]) W) = .next (lone ((frC P).finish v) [] w'):=hr
     exact ih (fr:={ c with mode:=.panicking chain }) ⟨hc1.todo,hc1.defers,hc1.kind,hc1.round,hc1.fn⟩ rfl (fun x hx=>hus x (List.mem_cons_of_mem _ hx)) hr
theorem Upto.trans {d d' : Nat} {ρ τ τ' : Tp} (h : Upto d ρ τ) (hd : d <= d') (h' : Upto d' τ τ') : Upto d ρ τ':=fun p hp q=>(h' p (by omega) q).trans (h p hp q)
theorem well_next {m m' : Machine} {fr : Frame} {us : List Frame} {W : World} (hm : m = lone fr (us ++ [frC P]) W) (hs : step P m = .next m') (h : Well P R m) : Well P R m':=by
 obtain ⟨n,v,w',hr,hv⟩:=h
 cases n with
 | zero =>
   subst hm
   simp [runN,lone] at hr
 | succ n =>
   simp only [runN,hs] at hr
   exact ⟨n,v,w',hr,hv⟩
theorem not_well {m : Machine} {fr : Frame} {us : List Frame} {W w' : World} {o : Outcome} (hm : m = lone fr (us ++ [frC P]) W) (hs : step P m = .ended o w') : ¬ Well P R m:=by
 rintro ⟨n,v,w',hr,hv⟩
 cases n with
 | zero =>
   subst hm
   simp [runN,lone] at hr
 | succ n =>
   simp only [runN,hs] at hr
   cases hr
theorem progress_ret (hP : Calm P L) {fr : Frame} {V : World} {d : Nat} {ρ : Tp} (ok : OkS P L fr []) (lv : LV P V) (hm : fr.mode = .returning) (hT : ∀ τ,Upto d ρ τ -> Well P R (lone fr ([] ++ [frC P]) (re V τ d))) {τ : Tp} (hτ : Upto d ρ τ) :
   ∃ v W' es,stepG P true (G fr [frC P]) (re V τ d) = .go (G ((frC P).finish v) []) W' es /\ R v (norm W'):=by
 rcases ret_sim (L:=L) (lv.rl τ τ d d) (lv.fit.re τ d) ok.ok hm with ⟨v,W',esW,hd,ht,h1,h2⟩ | h
 . refine ⟨v,W',esW,h1 _ _ _,?_⟩
   obtain ⟨n,v',w',hr,hv⟩:=well_next rfl (step_of_go (h1 true (frC P) [])) (hT τ hτ)
   obtain ⟨o,ho⟩:=lone_frC (P:=P) v W'
   have e:=runN_ended ho hr
   simp [lone] at e
   obtain ⟨rfl,e1⟩:=e
   have e2 : v' = v:=by simpa [frC,Frame.finish] using e1
   rwa [e2] at hv
 . obtain ⟨o,W',es,e⟩:=h true (frC P) []
   exact absurd (hT τ hτ) (not_well rfl (step_of_ended e))
theorem progress (hP : Calm P L) {fr : Frame} {us : List Frame} {V : World} {d : Nat} {ρ : Tp} (ok : OkS P L fr us) (lv : LV P V) (hm : fr.mode = .run ∨ us ≠ []) (hT : ∀ τ,Upto d ρ τ -> Well P R (lone fr (us ++ [frC P]) (re V τ d))) {τ : Tp} (hτ : Upto d ρ τ) :
   ∃ fr' us' W' es,stepG P true (G fr (us ++ [frC P])) (re V τ d) = .go (G fr' (us' ++ [frC P])) W' es /\ OkS P L fr' us' /\ LV P (norm W') /\ d <= W'.drawn /\
     (∀ τ',Upto W'.drawn τ τ' -> ∃ es,stepG P true (G fr (us ++ [frC P])) (re V τ' d) = .go (G fr' (us' ++ [frC P])) (re (norm W') τ' W'.drawn) es) /\
     ∀ τ',Upto W'.drawn τ τ' -> Well P R (lone fr' (us' ++ [frC P]) (re (norm W') τ' W'.drawn)):=by
 have hm' : fr.mode = .run ∨ fr.mode = .returning /\ us ≠ []:=by
   rcases ok.mode with h | h
   . exact .inl h
   . rcases hm with h' | h'
     . exact .inl h'
     . exact .inr ⟨h,h'⟩
 have hsim : ∀ τ',StepOut P L (fun _=>none) true [frC P] [frC P] (fun c=>G fr (us ++ c)) (re V τ d) (re V τ' d) (stepG P true (G fr (us ++ [frC P])) (re V τ d)):=fun τ'=>step_sim hP (lv.rl τ τ' d d) (lv.fit.re τ' d) ok.ok hm' ok.us
 have hw:=hT τ hτ
 cases hst : stepG P true (G fr (us ++ [frC P])) (re V τ d) with
 | go g' W' es =>
   have h0:=hsim τ
   rw [hst] at h0
   obtain ⟨hd,ht,⟨fr',us',rfl,hf',hm',hus',hgo⟩ | ⟨fr',us',chain,rfl,hm',hf',hus'⟩⟩:=h0
   . obtain ⟨w0,es0,e0,o0,_⟩:=hgo (fun j _ q=>rfl)
     have hreloc : ∀ τ',Upto W'.drawn τ τ' -> ∃ es,stepG P true (G fr (us ++ [frC P])) (re V τ' d) = .go (G fr' (us' ++ [frC P])) (re (norm W') τ' W'.drawn) es:=fun τ' hu=>by
       have h1:=hsim τ'
       rw [hst] at h1
       obtain ⟨_,_,⟨fr2,us2,e2,_,_,_,hgo'⟩ | ⟨fr2,us2,chain,e2,hm2,_⟩⟩:=h1
       . obtain ⟨w',es',e,o,_⟩:=hgo' (fun j hj q=>hu (d + j) hj q)
         obtain ⟨hn,_⟩:=lv.of_out o
         have hdr : w'.drawn = W'.drawn:=by have:=o.drawn; simp only [re] at this; omega
         have htp : w'.tape = τ':=o.hid.tape
         refine ⟨es',?_⟩
         rw [e,← e2,hn,← htp,← hdr,re_norm]
       . exfalso
         have : fr' = fr2:=by injection e2
         rw [← this] at hm2
         rcases hm' with h | h <;> rw [h] at hm2 <;> cases hm2
     refine ⟨fr',us',W',es,rfl,⟨hf',hm',hus'⟩,(lv.of_out o0).2,hd,hreloc,fun τ' hu=>?_⟩
     obtain ⟨es',e⟩:=hreloc τ' hu
     exact well_next rfl (step_of_go e) (hT τ' (hτ.trans hd hu))
   . exfalso
     obtain ⟨n,v,w',hr,_⟩:=well_next rfl (step_of_go hst) hw
     exact panic_lost hf' hm' hus' hr
 | ended o W' es=>exact absurd hw (not_well rfl (step_of_ended hst))
 | _=>have h0:=hsim τ; rw [hst] at h0; exact h0.elim
structure St where
 fr : Frame
 us : List Frame
 V : World
 d : Nat
 ρ : Tp
structure Inv (P : Program) (L : List FuncId) (R : Value -> World -> Prop) (s : St) : Prop where
 ok : OkS P L s.fr s.us
 lv : LV P s.V
 well : ∀ τ,Upto s.d s.ρ τ -> Well P R (lone s.fr (s.us ++ [frC P]) (re s.V τ s.d))
 not : ¬ WL P L R s.fr s.us s.V s.d s.ρ
theorem Inv.next (hP : Calm P L) {s : St} (h : Inv P L R s) : ∃ s',Inv P L R s' /\ s.d <= s'.d /\ Upto s.d s.ρ s'.ρ /\ ∀ τ,Upto s'.d s'.ρ τ -> step P (lone s.fr (s.us ++ [frC P]) (re s.V τ s.d)) = .next (lone s'.fr (s'.us ++ [frC P]) (re s'.V τ s'.d)):=by
 obtain ⟨fr,us,V,d,ρ⟩:=s
 obtain ⟨ok,lv,hT,hnot⟩:=h
 dsimp only at ok lv hT hnot ⊢
 by_cases hm : fr.mode = .run ∨ us ≠ []
 . have hpr:=fun {τ : Tp} (hτ : Upto d ρ τ)=>progress hP ok lv hm hT hτ
   refine Classical.byContradiction fun hno=>hnot (.step ok hm (fun τ hτ=>?_) fun τ fr' us' W' es hτ he=>?_)
   . obtain ⟨fr',us',W',es,e,_⟩:=hpr hτ
     exact ⟨fr',us',W',es,e⟩
   . refine Classical.byContradiction fun hw=>?_
     obtain ⟨fr2,us2,W2,es2,e,ok2,lv2,hd2,hr2,hT2⟩:=hpr hτ
     rw [e] at he
     injection he with he1 he2 he3
     subst he2
     injection he1 with he4 he5
     subst he4
     obtain rfl : us2 = us':=List.append_cancel_right he5
     exact hno ⟨⟨fr2,us2,norm W2,W2.drawn,τ⟩,⟨ok2,lv2,hT2,hw⟩,hd2,hτ,fun τ' hu=>let ⟨_,e⟩:=hr2 τ' hu; step_of_go e⟩
 . exfalso
   have hus : us = []:=Classical.byContradiction fun h=>hm (.inr h)
   have hm' : fr.mode = .returning:=ok.mode.resolve_left fun h=>hm (.inl h)
   subst hus
   exact hnot (.ret ok hm' fun τ hτ=>progress_ret hP ok lv hm' hT hτ)
theorem wl_of_well (hP : Calm P L) {fr : Frame} {us : List Frame} {V : World} {d : Nat} {ρ : Tp} (ok : OkS P L fr us) (lv : LV P V) (hT : ∀ τ,Upto d ρ τ -> Well P R (lone fr (us ++ [frC P]) (re V τ d))) : WL P L R fr us V d ρ:=by
 refine Classical.byContradiction fun hno=>?_
 have hch : ∃ f : Nat -> St,f 0 = ⟨fr,us,V,d,ρ⟩ /\ ∀ i,Inv P L R (f i) /\ (f i).d <= (f (i + 1)).d /\ Upto (f i).d (f i).ρ (f (i + 1)).ρ /\ ∀ τ,Upto (f (i + 1)).d (f (i + 1)).ρ τ -> step P (lone (f i).fr ((f i).us ++ [frC P]) (re (f i).V τ (f i).d)) = .next (lone (f (i + 1)).fr ((f (i + 1)).us ++ [frC P]) (re (f (i + 1)).V τ (f (i + 1)).d)):=by
   let g : Nat -> { s : St // Inv P L R s }:=fun n=>n.rec ⟨⟨fr,us,V,d,ρ⟩,ok,lv,hT,hno⟩ fun _ s=>⟨(Inv.next hP s.2).choose,(Inv.next hP s.2).choose_spec.1⟩
   exact ⟨fun i=>(g i).1,rfl,fun i=>⟨(g i).2,(Inv.next hP (g i).2).choose_spec.2⟩⟩
 obtain ⟨f,hf0,hf⟩:=hch
 have mono : ∀ i k,(f i).d <= (f (i + k)).d /\ Upto (f i).d (f i).ρ (f (i + k)).ρ:=by
   intro i k
   induction k with
   | zero=>exact ⟨Nat.le_refl _,fun _ _ _=>rfl⟩
   | succ k ih=>exact ⟨Nat.le_trans ih.1 (hf (i + k)).2.1,ih.2.trans ih.1 (hf (i + k)).2.2.1⟩
 let t : Tp:=fun p q=>@dite _ (∃ i,p < (f i).d) (Classical.propDecidable _) (fun h=>(f h.choose).ρ p q) (fun _=>0)
 have ht : ∀ i,Upto (f i).d (f i).ρ t:=by
   intro i p hp q
   have hex : ∃ i,p < (f i).d:=⟨i,hp⟩
   show @dite _ (∃ i,p < (f i).d) (Classical.propDecidable _) (fun h=>(f h.choose).ρ p q) (fun _=>0) = _
   rw [dif_pos hex]
   have hj:=hex.choose_spec
   generalize hex.choose = j at hj ⊢
   rcases Nat.le_total i j with h | h
   . obtain ⟨k,rfl⟩:=Nat.exists_eq_add_of_le h
     exact (mono i k).2 p hp q
   . obtain ⟨k,rfl⟩:=Nat.exists_eq_add_of_le h
     exact ((mono j k).2 p hj q).symm
 have run : ∀ n i,runN P n (lone (f i).fr ((f i).us ++ [frC P]) (re (f i).V t (f i).d)) = .next (lone (f (i + n)).fr ((f (i + n)).us ++ [frC P]) (re (f (i + n)).V t (f (i + n)).d)):=by
   intro n
   induction n with
   | zero=>intro i; rfl
   | succ n ih =>
     intro i
     simp only [runN,(hf i).2.2.2 t (ht (i + 1))]
     rw [ih (i + 1),show i + 1 + n = i + (n + 1) by omega]
 obtain ⟨n,v,w',hr,_⟩:=(hf 0).1.well t (ht 0)
 rw [run n 0] at hr
 simp [lone] at hr
end
def shut (P : Program) (L : List FuncId) : List Nat -> Code -> Bool
 | _,.skip=>true
 | env,.exit id=>env.contains id
 | env,.seq a b=>shut P L env a && shut P L env b
 | env,.cond _ a b=>shut P L env a && shut P L env b
 | env,.block id c=>shut P L (id :: env) c
 | env,.loop c=>shut P L env c
 | _,.region _ ops _=>ops.toList.all fun o=>opOk P L o.op
 | _,_=>false
def blks : List Item -> List Nat
 | []=>[]
 | .inBlock id :: t=>id :: blks t
 | _ :: t=>blks t
def shutI (P : Program) (L : List FuncId) : List Item -> Bool
 | []=>true
 | .code c :: t=>shut P L (blks t) c && shutI P L t
 | .inBlock _ :: t=>shutI P L t
 | .inLoop c :: t=>shut P L (blks t) c && shutI P L t
 | .inRegion ops _ :: t=>(ops.toList.all fun o=>opOk P L o.op) && shutI P L t
 | _=>false
inductive Pos where
 | base (a : Act) (t : List Item)
 | call (fr : Frame) (us : List Frame) (a : Act) (t : List Item)
def Pos.g (b : Frame) (k : List Item) (cs : List Frame) : Pos -> Goroutine
 | .base a t=>G (b.at a (t ++ k)) cs
 | .call fr us a t=>G fr (us ++ b.at a (t ++ k) :: cs)
def PosOk (P : Program) (L : List FuncId) : Pos -> Prop
 | .base a t=>a.defers = [] /\ shutI P L t = true
 | .call fr us a t=>OkS P L fr us /\ a.defers = [] /\ shutI P L t = true /\ ∃ ops i l t',t = .inRegion ops (i :: l) :: t'
def psn : List Item := [.extern "fmt's door zz" #[]]
section
variable {P : Program} {L : List FuncId}
theorem exit_shut {id : Nat} : ∀ {t : List Item},shutI P L t = true -> (blks t).contains id = true -> ∃ t',(∀ k,exitTo id (t ++ k) = some (t' ++ k)) /\ shutI P L t' = true
 | [],_,h=>by simp [blks] at h
 | x :: t,h,hc=>by
   cases x with
   | inBlock j =>
     simp only [blks,List.contains_cons,Bool.or_eq_true,beq_iff_eq] at hc
     simp only [shutI] at h
     by_cases e : j = id
     . exact ⟨t,fun k=>by simp [exitTo,e],h⟩
     . rcases hc with hc | hc
       . exact absurd hc.symm e
       . obtain ⟨t',h1,h2⟩:=exit_shut h hc
         exact ⟨t',fun k=>by simp [exitTo,e,h1 k],h2⟩
   | code c =>
     simp only [shutI,Bool.and_eq_true] at h
     obtain ⟨t',h1,h2⟩:=exit_shut h.2 hc
     exact ⟨t',fun k=>by simp [exitTo,h1 k],h2⟩
   | inLoop c =>
     simp only [shutI,Bool.and_eq_true] at h
     obtain ⟨t',h1,h2⟩:=exit_shut h.2 hc
     exact ⟨t',fun k=>by simp [exitTo,h1 k],h2⟩
   | inRegion ops l =>
     simp only [shutI,Bool.and_eq_true] at h
     obtain ⟨t',h1,h2⟩:=exit_shut h.2 hc
     exact ⟨t',fun k=>by simp [exitTo,h1 k],h2⟩
   | _=>simp [shutI] at h
def Thru (P : Program) (fr : Frame) : Prop:=fr.defers = [] /\ ∃ fn,P.funcs[fr.fn]? = some fn
theorem thru_lost : ∀ {us : List Frame} {fr : Frame} {chain : List PanicEntry} {W : World} {n : Nat} {fr2 : Frame} {cs2 : List Frame} {w' : World},Thru P fr -> fr.mode = .panicking chain -> (∀ x ∈ us,Thru P x /\ x.mode = .run) -> fr2.mode = .run -> runN P n (lone fr (us ++ [frC P]) W) ≠ .next (lone fr2 cs2 w'):=by
 intro us
 induction us with
 | nil =>
   intro fr chain W n fr2 cs2 w' hfr hm _ hm2 hr
   obtain ⟨h2,fn,h5⟩:=hfr
   cases n with
   | zero =>
     simp [runN,lone] at hr
     obtain ⟨-,rfl,-⟩:=hr
     rw [hm] at hm2
     cases hm2
   | succ n =>
     have e : stepG P true (G fr [frC P]) W = .go (G ((frC P).raise chain) []) W:=by
       have hc : fr.catches P = false:=by simp [Frame.catches,h5]
       simp [G,stepG,unwind,hm,h2,hc]
     simp only [List.nil_append] at hr
     rw [runN,step_of_go e] at hr
     cases n with
     | zero =>
       simp [runN,lone] at hr
       obtain ⟨-,rfl,-⟩:=hr
       simp [frC,Frame.raise] at hm2
     | succ n =>
       have hc : ((frC P).raise chain).catches P = true:=by simp [Frame.catches,frC,Frame.raise]
       have e2 : ∃ o,stepG P true (G ((frC P).raise chain) []) W = .ended o W #[]:=by
         refine ⟨Outcome.unsupported (.noEntry "a panic or Goexit out of a method that fmt calls behind a cut's door") (((frC P).raise chain).pos P), ?_⟩
         have hm2 : ((frC P).raise chain).mode = .panicking chain:=by simp [frC,Frame.raise]
         have hd2 : ((frC P).raise chain).defers = []:=by simp [frC,Frame.raise]
         simp [G,stepG,unwind,hc,hm2,hd2]
       obtain ⟨o,e2⟩:=e2
       have he2:=step_of_ended e2
       replace hr : runN P (n + 1) (lone ((frC P).raise chain) [] W) = .next (lone fr2 cs2 w'):=hr
       simp [runN,he2] at hr
 | cons c us ih =>
   intro fr chain W n fr2 cs2 w' hfr hm hus hm2 hr
   obtain ⟨h2,fn,h5⟩:=hfr
   obtain ⟨hc1,hc2⟩:=hus c (List.mem_cons_self ..)
   cases n with
   | zero =>
     simp [runN,lone] at hr
     obtain ⟨-,rfl,-⟩:=hr
     rw [hm] at hm2
     cases hm2
   | succ n =>
     have e : stepG P true (G fr (c :: us ++ [frC P])) W = .go (G (c.raise chain) (us ++ [frC P])) W:=by
       have hc : fr.catches P = false:=by simp [Frame.catches,h5]
       simp [G,stepG,unwind,hm,h2,hc]
     rw [runN,step_of_go e] at hr
     have hra : c.raise chain = { c with mode:=.panicking chain }:=by simp [Frame.raise,hc2]
     rw [hra] at hr
     replace hr : runN P n (lone { c with mode:=.panicking chain } (us ++ [frC P]) W) = .next (lone fr2 cs2 w'):=hr
     exact ih (fr:={ c with mode:=.panicking chain }) hc1 rfl (fun x hx=>hus x (List.mem_cons_of_mem _ hx)) hm2 hr
def Panics (P : Program) (g : Goroutine) (cs0 : List Frame) : Prop:=∃ fr us chain,g = G fr (us ++ cs0) /\ Thru P fr /\ fr.mode = .panicking chain /\ ∀ x ∈ us,Thru P x /\ x.mode = .run
def ChkOut (P : Program) (L : List FuncId) (Z : Cuts) (main : Bool) (b : Frame) (k0 k : List Item) (cs0 cs : List Frame) (p : Pos) (W w : World) : GStep -> Prop
 | .go g' W' _=>W.drawn <= W'.drawn /\ W'.tape = W.tape /\ ((∃ p',g' = p'.g b k0 cs0 /\ PosOk P L p' /\ (Ag w W W' -> ∃ w' es',stepG P main (p.g b k cs) w = .go (p'.g b k cs) w' es' /\ Out P Z w W W' w' #[] #[] /\ ∀ e ∈ es',EvZ Z w'.heap.size e)) ∨ Panics P g' cs0)
 | .ended ..=>True
 | _=>False
variable {Z : Cuts} {main main0 : Bool} {W w : World} {cs cs0 : List Frame} {b : Frame} {k k0 : List Item}
theorem chk_still (hn : norm W = pz Z w) (hf : Fit P Z w) {a : Act} {t t' : List Item} (ha : a.defers = []) (ht : shutI P L t' = true)
   (h : ∀ (mn : Bool) (k : List Item) cs w,stepG P mn (G (b.at a (t ++ k)) cs) w = .go (G (b.at a (t' ++ k)) cs) w) : ChkOut P L Z main b k0 k cs0 cs (.base a t) W w (stepG P main0 (Pos.g b k0 cs0 (.base a t)) W):=by
 simp only [Pos.g]
 rw [h]
 exact ⟨Nat.le_refl _,rfl,.inl ⟨.base a t',rfl,⟨ha,ht⟩,fun _=>⟨w,#[],h _ _ _ _,Out.id hn hf _,by simp⟩⟩⟩
theorem put_defers {a : Act} {d : Option Tmp} {v : Value} (h : a.defers = []) : (a.put d v).defers = []:=by cases d <;> exact h
theorem chk_op (hP : Calm P L) (hb : b.kind = .normal) (hbf : ∃ fn,P.funcs[b.fn]? = some fn) (hn : norm W = pz Z w) (hf : Fit P Z w) {a : Act} {ops : Array Oper} {i : Nat} {l : List Nat} {t : List Item} (ha : a.defers = []) (ht : shutI P L (.inRegion ops (i :: l) :: t) = true) {s : Sem Next} (hs : SimOk P Z (NextOk L) s)
   (h : ∀ (mn : Bool) (k : List Item) cs w,stepG P mn (G (b.at a (.inRegion ops (i :: l) :: k)) cs) w = stepG.apply P true (b.at a (.inRegion ops (i :: l) :: k)) cs none s w) :
   ChkOut P L Z main b k0 k cs0 cs (.base a (.inRegion ops (i :: l) :: t)) W w (stepG P main0 (Pos.g b k0 cs0 (.base a (.inRegion ops (i :: l) :: t))) W):=by
 have hsim:=hs W w #[] hn hf
 have hrt:=Sem.runT_fst P s W #[]
 simp only [Pos.g,List.cons_append]
 rw [h]
 obtain ⟨⟨r,esW⟩,hrW⟩ : ∃ x,x = s.runT P W #[]:=⟨_,rfl⟩
 rw [← hrW] at hrt
 replace hrt : r = s.run P W:=hrt
 rw [← hrt] at hsim
 have hkk : ∀ k : List Item,(b.at a (.inRegion ops (i :: l) :: k)).kind = .normal:=fun _=>hb
 have evs : ∀ {w' : World} {es' : Array Event} {W' : World},Out P Z w W W' w' #[] es' -> Out P Z w W W' w' #[] #[] /\ ∀ e ∈ seen P b.fn es',EvZ Z w'.heap.size e:=fun o=>by
   obtain ⟨u,hu,hu'⟩:=o.evs
   refine ⟨⟨o.rl,o.fit,o.hid,o.drawn,#[],by simp,by simp⟩,fun e he=>hu' e ?_⟩
   have:=mem_seen he
   rw [hu] at this
   simpa using this
 have ht' : shutI P L (.inRegion ops l :: t) = true:=ht
 cases r with
 | ok nx W' =>
   obtain ⟨hnx,hd,htp,hgo⟩:=hsim
   cases nx with
   | value v =>
     rw [apply_value (hkk _) hrW.symm]
     refine ⟨hd,htp,.inl ⟨.base (a.put ((ops[i]?).bind (·.dst)) v) (.inRegion ops l :: t),by rw [Frame.finish_at]; rfl,⟨put_defers ha,ht'⟩,fun hag=>?_⟩⟩
     obtain ⟨w',es',e,o⟩:=hgo hag
     exact ⟨w',_,by simp only [Pos.g,List.cons_append]; rw [h,apply_value (hkk _) e,Frame.finish_at]; rfl,(evs o).1,(evs o).2⟩
   | skip =>
     rw [apply_skip (hkk _) hrW.symm]
     refine ⟨hd,htp,.inl ⟨.base (a.put ((ops[i]?).bind (·.dst)) undef) (.inRegion ops l :: t),by rw [Frame.finish_at]; rfl,⟨put_defers ha,ht'⟩,fun hag=>?_⟩⟩
     obtain ⟨w',es',e,o⟩:=hgo hag
     exact ⟨w',_,by simp only [Pos.g,List.cons_append]; rw [h,apply_skip (hkk _) e,Frame.finish_at]; rfl,(evs o).1,(evs o).2⟩
   | enter f args =>
     rw [apply_enter (hkk _) rfl hrW.symm]
     obtain ⟨h1,h2⟩:=FrOk.enter hP hnx args
     refine ⟨hd,htp,.inl ⟨.call (Frame.enter P f args .normal) [] a (.inRegion ops (i :: l) :: t),rfl,⟨⟨h1,.inl h2,by simp⟩,ha,ht,_,_,_,_,rfl⟩,fun hag=>?_⟩⟩
     obtain ⟨w',es',e,o⟩:=hgo hag
     exact ⟨w',_,by simp only [Pos.g,List.cons_append]; rw [h,apply_enter (hkk _) rfl e]; rfl,(evs o).1,(evs o).2⟩
   | _=>exact hnx.elim
 | halt x W' =>
   cases x with
   | panic v =>
     obtain ⟨hd,htp,hgo⟩:=hsim
     rw [apply_panic (hkk _) hrW.symm]
     exact ⟨hd,htp,.inr ⟨_,[],_,rfl,⟨ha,hbf⟩,rfl,by simp⟩⟩
   | stuck m=>simp [stepG.apply,← hrW,GStep.after,ChkOut,-Sem.runT_eq]
   | unsupported u =>
     cases u with
     | initOrder g=>simp [stepG.apply,← hrW,GStep.after,early,hP.ahead,hP.step g hsim,ChkOut,-Sem.runT_eq]
     | _=>simp [stepG.apply,← hrW,GStep.after,ChkOut,-Sem.runT_eq]
   | _=>exact hsim.elim
theorem chk_step (hP : Calm P L) (hb : b.kind = .normal) (hbf : ∃ fn,P.funcs[b.fn]? = some fn) (hn : norm W = pz Z w) (hf : Fit P Z w) {a : Act} {t : List Item} (ha : a.defers = []) (ht : shutI P L t = true) (hne : t ≠ []) :
   ChkOut P L Z main b k0 k cs0 cs (.base a t) W w (stepG P main0 (Pos.g b k0 cs0 (.base a t)) W):=by
 match t,ht,hne with
 | .code .skip :: t,ht,_ =>
   simp only [shutI,shut,Bool.and_eq_true,Bool.true_and] at ht
   exact chk_still hn hf ha ht fun mn k cs w=>stepG_skip
 | .inBlock id :: t,ht,_=>exact chk_still (t':=t) hn hf ha ht fun mn k cs w=>stepG_inBlock
 | .code (.seq x y) :: t,ht,_ =>
   simp only [shutI,shut,Bool.and_eq_true] at ht
   exact chk_still (t':=.code x :: .code y :: t) hn hf ha (by simp only [shutI,blks,Bool.and_eq_true]; exact ⟨ht.1.1,ht.1.2,ht.2⟩) fun mn k cs w=>stepG_seq
 | .code (.cond c x y) :: t,ht,_ =>
   simp only [shutI,shut,Bool.and_eq_true] at ht
   cases hv : Act.eval a c with
   | bool v=>exact chk_still (t':=.code (if v then x else y) :: t) hn hf ha (by
       simp only [shutI,Bool.and_eq_true]
       refine ⟨?_,ht.2⟩
       cases v
       . exact ht.1.2
       . exact ht.1.1) fun mn k cs w=>stepG_cond hv
   | _ =>
     have he : (b.at a (.code (.cond c x y) :: (t ++ k0))).eval c = _:=(Frame.eval_at b a _ c).trans hv
     simp only [Frame.at] at he
     simp [Pos.g,G,stepG,stepG.exec,Frame.at,he,ChkOut]
 | .code (.block id c) :: t,ht,_ =>
   simp only [shutI,shut,Bool.and_eq_true] at ht
   exact chk_still (t':=.code c :: .inBlock id :: t) hn hf ha (by simp only [shutI,blks,Bool.and_eq_true]; exact ht) fun mn k cs w=>stepG_block
 | .code (.loop c) :: t,ht,_ =>
   simp only [shutI,shut,Bool.and_eq_true] at ht
   exact chk_still (t':=.code c :: .inLoop c :: t) hn hf ha (by simp only [shutI,blks,Bool.and_eq_true]; exact ⟨ht.1,ht⟩) fun mn k cs w=>stepG_loop
 | .inLoop c :: t,ht,_ =>
   simp only [shutI,Bool.and_eq_true] at ht
   exact chk_still (t':=.code c :: .inLoop c :: t) hn hf ha (by simp only [shutI,blks,Bool.and_eq_true]; exact ⟨ht.1,ht⟩) fun mn k cs w=>stepG_inLoop
 | .code (.exit id) :: t,ht,_ =>
   simp only [shutI,shut,Bool.and_eq_true] at ht
   obtain ⟨t',h1,h2⟩:=exit_shut ht.2 ht.1
   exact chk_still (t':=t') hn hf ha h2 fun mn k cs w=>stepG_exit (h1 k)
 | .code (.region id ops draw) :: t,ht,_ =>
   have hok : ∀ l,shutI P L (.inRegion ops l :: t) = true:=fun l=>ht
   cases draw with
   | false=>exact chk_still hn hf ha (hok _) fun mn k cs w=>stepG_region
   | true =>
     have hd : ∀ (mn : Bool) (k : List Item) cs (w : World),stepG P mn (G (b.at a (.code (.region id ops true) :: k)) cs) w = .go (G (b.at a (.inRegion ops (Region.schedule (P.follows .mixedOrders) ops (w.tape w.drawn (.order b.fn id))) :: k)) cs) { w with drawn:=w.drawn + 1 }:=fun mn k cs w=>by
       simp [G,stepG,stepG.exec,Frame.at,choose,Sem.run,Question.forced,Question.cut]
     simp only [Pos.g,List.cons_append]
     rw [hd]
     refine ⟨Nat.le_succ _,rfl,.inl ⟨.base a (.inRegion ops (Region.schedule (P.follows .mixedOrders) ops (W.tape W.drawn (.order b.fn id))) :: t),rfl,⟨ha,hok _⟩,fun hag=>⟨{ w with drawn:=w.drawn + 1 },#[],?_,?_,by simp⟩⟩⟩
     . have e:=hag 0 (show W.drawn + 0 < W.drawn + 1 by omega) (.order b.fn id)
       simp only [Nat.add_zero] at e
       simp only [Pos.g,List.cons_append]
       rw [hd,e]
     . exact ⟨hn,⟨hf.cut,hf.rows,hf.chans,hf.glob,hf.bad⟩,⟨fun _ _ _ _ h _=>h,fun _ _ _ _ c _ _ _ h=>⟨c,h,rfl,fun _ _=>rfl⟩,Nat.le_refl _,rfl,fun _ _ _ h=>h,rfl,rfl⟩,by show w.drawn + 1 + W.drawn = w.drawn + (W.drawn + 1); omega,#[],by simp,by simp⟩
 | .inRegion ops [] :: t,ht,_ =>
   simp only [shutI,Bool.and_eq_true] at ht
   exact chk_still hn hf ha ht.2 fun mn k cs w=>stepG_region_end
 | .inRegion ops (i :: l) :: t,ht,_ =>
   by_cases hw : ((ops[i]?).map (Region.wanted · (yielded ops a.tmps))).getD false = true
   . cases ho : ops[i]? with
     | none=>rw [ho] at hw; cases hw
     | some o =>
       rw [ho] at hw
       replace hw : Region.wanted o (yielded ops a.tmps) = true:=hw
       have hok : opOk P L o.op = true:=by
         simp only [shutI,Bool.and_eq_true,List.all_eq_true] at ht
         exact ht.1 o (by rw [Array.mem_toList_iff]; exact Array.mem_of_getElem? ho)
       exact chk_op hP hb hbf hn hf ha ht (sim_execOp (o:=o) (ρ:=Act.eval a) (fun _=>rfl) (fun _=>rfl) hok) fun mn k cs w=>stepG_oper ho hw
   . have hu : ∀ (mn : Bool) (k : List Item) cs w,stepG P mn (G (b.at a (.inRegion ops (i :: l) :: k)) cs) w = .go (G (b.at (a.put ((ops[i]?).bind (·.dst)) undef) (.inRegion ops l :: k)) cs) w:=fun mn k cs w=>by
       rw [← Frame.finish_at]
       simp only [Bool.not_eq_true] at hw
       simp [G,stepG,stepG.exec,Frame.at] at hw ⊢
       simp [hw]
     simp only [Pos.g,List.cons_append]
     rw [hu]
     exact ⟨Nat.le_refl _,rfl,.inl ⟨.base (a.put ((ops[i]?).bind (·.dst)) undef) (.inRegion ops l :: t),rfl,⟨put_defers ha,ht⟩,fun _=>⟨w,#[],hu _ _ _ _,Out.id hn hf _,by simp⟩⟩⟩
theorem OkS.thru {fr : Frame} (h : FrOk P L fr) : Thru P fr:=⟨h.defers,h.fn⟩
theorem chk_call (hP : Calm P L) (hb : b.kind = .normal) (hbf : ∃ fn,P.funcs[b.fn]? = some fn) (hn : norm W = pz Z w) (hf : Fit P Z w) {fr : Frame} {us : List Frame} {a : Act} {t : List Item} (ok : PosOk P L (.call fr us a t)) :
   ChkOut P L Z main b k0 k cs0 cs (.call fr us a t) W w (stepG P main0 (Pos.g b k0 cs0 (.call fr us a t)) W):=by
 obtain ⟨hs,ha,ht,ops,i,l,t',rfl⟩:=ok
 by_cases hm : fr.mode = .run ∨ fr.mode = .returning /\ us ≠ []
 . have h:=step_sim (main:=main) (main0:=main0) (cs:=b.at a (.inRegion ops (i :: l) :: t' ++ k) :: cs) (cs0:=b.at a (.inRegion ops (i :: l) :: t' ++ k0) :: cs0) hP hn hf hs.ok hm hs.us
   simp only [Pos.g]
   revert h
   generalize stepG P main0 (G fr (us ++ b.at a (.inRegion ops (i :: l) :: t' ++ k0) :: cs0)) W = r
   intro h
   cases r with
   | go g' W' es =>
     obtain ⟨hd,htp,⟨fr',us',rfl,hf',hm',hus',hgo⟩ | ⟨fr',us',chain,rfl,hm',hf',hus'⟩⟩:=h
     . refine ⟨hd,htp,.inl ⟨.call fr' us' a (.inRegion ops (i :: l) :: t'),rfl,⟨⟨hf',hm',hus'⟩,ha,ht,_,_,_,_,rfl⟩,hgo⟩⟩
     . refine ⟨hd,htp,.inr ⟨fr',us' ++ [b.at a (.inRegion ops (i :: l) :: t' ++ k0)],chain,by simp,OkS.thru hf',hm',fun x hx=>?_⟩⟩
       rcases List.mem_append.1 hx with hx | hx
       . exact ⟨OkS.thru (hus' x hx).1,(hus' x hx).2⟩
       . obtain rfl:=List.mem_singleton.1 hx
         exact ⟨⟨ha,hbf⟩,rfl⟩
   | ended=>trivial
   | _=>exact h.elim
 . have hm1 : fr.mode = .returning:=hs.mode.resolve_left fun h=>hm (.inl h)
   have hus : us = []:=Classical.byContradiction fun h=>hm (.inr ⟨hm1,h⟩)
   subst hus
   have ht' : shutI P L (.inRegion ops l :: t') = true:=ht
   simp only [Pos.g,List.nil_append]
   rcases ret_sim hn hf hs.ok hm1 with ⟨v,W',esW,hd,htp,h1,h2⟩ | h
   . rw [h1]
     refine ⟨hd,htp,.inl ⟨.base (a.put ((ops[i]?).bind (·.dst)) v) (.inRegion ops l :: t'),by simp only [List.cons_append]; rw [Frame.finish_at]; rfl,⟨put_defers ha,ht'⟩,fun hag=>?_⟩⟩
     obtain ⟨w',es',e,o,q⟩:=h2 hag
     exact ⟨w',es',by simp only [Pos.g,List.nil_append,List.cons_append]; rw [e,Frame.finish_at],o,q⟩
   . obtain ⟨o,W',es,e⟩:=h main0 (b.at a (.inRegion ops (i :: l) :: t' ++ k0)) cs0
     rw [e]
     trivial
theorem chk_sim (hP : Calm P L) (hb : b.kind = .normal) (hbf : ∃ fn,P.funcs[b.fn]? = some fn) (hn : norm W = pz Z w) (hf : Fit P Z w) {p : Pos} (ok : PosOk P L p) (he : ∀ a,p ≠ .base a []) :
   ChkOut P L Z main b k0 k cs0 cs p W w (stepG P main0 (p.g b k0 cs0) W):=by
 cases p with
 | base a t=>exact chk_step hP hb hbf hn hf ok.1 ok.2 fun h=>he a (by rw [h])
 | call fr us a t=>exact chk_call hP hb hbf hn hf ok
inductive WC (P : Program) (L : List FuncId) (b : Frame) (R : Act -> World -> Prop) : Pos -> World -> Nat -> Tp -> Prop
 | stop {a : Act} {V : World} {d : Nat} {ρ : Tp} (h : R a V) (ha : a.defers = []) : WC P L b R (.base a []) V d ρ
 | step {p : Pos} {V : World} {d : Nat} {ρ : Tp} (ok : PosOk P L p) (he : ∀ a,p ≠ .base a [])
     (h : ∀ τ,Upto d ρ τ -> ∃ p' W' es,PosOk P L p' /\ stepG P true (p.g b psn [frC P]) (re V τ d) = .go (Pos.g b psn [frC P] p') W' es)
     (h' : ∀ τ p' W' es,Upto d ρ τ -> PosOk P L p' -> stepG P true (p.g b psn [frC P]) (re V τ d) = .go (Pos.g b psn [frC P] p') W' es -> WC P L b R p' (norm W') W'.drawn τ) : WC P L b R p V d ρ
def mach (g : Goroutine) (w : World) : Machine:=lone g.frame g.callers w
def WellC (P : Program) (b : Frame) (R : Act -> World -> Prop) (m : Machine) : Prop:=∃ n a w',runN P n m = .next (lone (b.at a psn) [frC P] w') /\ R a (norm w') /\ a.defers = []
theorem psn_ended (b : Frame) (a : Act) (w : World) : ∃ o,step P (lone (b.at a psn) [frC P] w) = .ended o w:=by
 have h : Extern.next "fmt's door zz" = none := by kernel_rfl
 have e : ∃ o,stepG P true (G (b.at a psn) [frC P]) w = .ended o w #[]:=by
   simp [psn,Frame.at,stepG,stepG.exec,h,G]
 obtain ⟨o,e⟩:=e
 exact ⟨o,step_of_ended e⟩
theorem pos_run {p : Pos} (ok : PosOk P L p) (he : ∀ a,p ≠ .base a []) {a : Act} {w w' : World} : mach (p.g b psn [frC P]) w ≠ lone (b.at a psn) [frC P] w':=by
 intro h
 cases p with
 | base a' t =>
   simp [mach,lone,Pos.g,G,Frame.at] at h
   exact he a' (by rw [h.2.2.1])
 | call fr us a' t =>
   simp [mach,lone,Pos.g,G] at h
   have:=congrArg List.length h.2.2
   simp at this
theorem step_mach {g g' : Goroutine} {w w' : World} {es : Array Event} (hg : g = G g.frame g.callers) (hg' : g' = G g'.frame g'.callers) (h : stepG P true g w = .go g' w' es) : step P (mach g w) = .next (mach g' w'):=by
 rw [hg,hg'] at h
 exact step_of_go h
theorem Pos.form (p : Pos) : p.g b k cs = G (p.g b k cs).frame (p.g b k cs).callers:=by cases p <;> rfl
variable {R : Act -> World -> Prop}
theorem wellc_next {m m' : Machine} {p : Pos} {W : World} (ok : PosOk P L p) (he : ∀ a,p ≠ .base a []) (hm : m = mach (p.g b psn [frC P]) W) (hs : step P m = .next m') (h : WellC P b R m) : WellC P b R m':=by
 obtain ⟨n,a,w',hr,hv⟩:=h
 cases n with
 | zero =>
   simp only [runN] at hr
   rw [hm] at hr
   exact absurd (Stepped.next.inj hr) (pos_run ok he)
 | succ n =>
   simp only [runN,hs] at hr
   exact ⟨n,a,w',hr,hv⟩
theorem progress_c (hP : Calm P L) (hb : b.kind = .normal) (hbf : ∃ fn,P.funcs[b.fn]? = some fn) {p : Pos} {V : World} {d : Nat} {ρ : Tp} (ok : PosOk P L p) (lv : LV P V) (he : ∀ a,p ≠ .base a []) (hT : ∀ τ,Upto d ρ τ -> WellC P b R (mach (p.g b psn [frC P]) (re V τ d))) {τ : Tp} (hτ : Upto d ρ τ) :
   ∃ p' W' es,stepG P true (p.g b psn [frC P]) (re V τ d) = .go (Pos.g b psn [frC P] p') W' es /\ PosOk P L p' /\ LV P (norm W') /\ d <= W'.drawn /\
     (∀ τ',Upto W'.drawn τ τ' -> ∃ es,stepG P true (p.g b psn [frC P]) (re V τ' d) = .go (Pos.g b psn [frC P] p') (re (norm W') τ' W'.drawn) es) /\
     ∀ τ',Upto W'.drawn τ τ' -> WellC P b R (mach (Pos.g b psn [frC P] p') (re (norm W') τ' W'.drawn)):=by
 have hsim : ∀ τ',ChkOut P L (fun _=>none) true b psn psn [frC P] [frC P] p (re V τ d) (re V τ' d) (stepG P true (p.g b psn [frC P]) (re V τ d)):=fun τ'=>chk_sim hP hb hbf (lv.rl τ τ' d d) (lv.fit.re τ' d) ok he
 have hw:=hT τ hτ
 cases hst : stepG P true (p.g b psn [frC P]) (re V τ d) with
 | go g' W' es =>
   have h0:=hsim τ
   rw [hst] at h0
   obtain ⟨hd,ht,⟨p',rfl,hp',hgo⟩ | ⟨fr,us,chain,rfl,h1,h2,h3⟩⟩:=h0
   . obtain ⟨w0,es0,e0,o0,_⟩:=hgo (fun j _ q=>rfl)
     have hreloc : ∀ τ',Upto W'.drawn τ τ' -> ∃ es,stepG P true (p.g b psn [frC P]) (re V τ' d) = .go (Pos.g b psn [frC P] p') (re (norm W') τ' W'.drawn) es:=fun τ' hu=>by
       have h1:=hsim τ'
       rw [hst] at h1
       obtain ⟨_,_,⟨p2,e2,_,hgo'⟩ | ⟨fr,us,chain,e2,h1,h2,h3⟩⟩:=h1
       . obtain ⟨w',es',e,o,_⟩:=hgo' (fun j hj q=>hu (d + j) hj q)
         obtain ⟨hn,_⟩:=lv.of_out o
         have hdr : w'.drawn = W'.drawn:=by have:=o.drawn; simp only [re] at this; omega
         have htp : w'.tape = τ':=o.hid.tape
         refine ⟨es',?_⟩
         rw [e,e2,hn,← htp,← hdr,re_norm]
       . exfalso
         have e3 : (Pos.g b psn [frC P] p').frame = fr:=by rw [e2]; rfl
         have hr : fr.mode = .run ∨ fr.mode = .returning:=by
           rw [← e3]
           cases p' with
           | base a t=>exact .inl rfl
           | call fr us a t=>exact hp'.1.mode
         rcases hr with h | h <;> rw [h] at h2 <;> cases h2
     refine ⟨p',W',es,rfl,hp',(lv.of_out o0).2,hd,hreloc,fun τ' hu=>?_⟩
     obtain ⟨es',e⟩:=hreloc τ' hu
     exact wellc_next ok he rfl (step_mach p.form (Pos.form p') e) (hT τ' (hτ.trans hd hu))
   . exfalso
     obtain ⟨n,a,w',hr,_⟩:=wellc_next ok he rfl (step_mach p.form rfl hst) hw
     exact thru_lost h1 h2 h3 rfl hr
 | ended o W' es =>
   exfalso
   obtain ⟨n,a,w',hr,_⟩:=hw
   have hs : step P (mach (p.g b psn [frC P]) (re V τ d)) = .ended o W':=step_of_ended (by rw [← p.form]; exact hst)
   have e:=runN_ended hs hr
   exact pos_run ok he e.symm
 | _=>have h0:=hsim τ; rw [hst] at h0; exact h0.elim
structure StC where
 p : Pos
 V : World
 d : Nat
 ρ : Tp
structure InvC (P : Program) (L : List FuncId) (b : Frame) (R : Act -> World -> Prop) (s : StC) : Prop where
 ok : PosOk P L s.p
 lv : LV P s.V
 well : ∀ τ,Upto s.d s.ρ τ -> WellC P b R (mach (s.p.g b psn [frC P]) (re s.V τ s.d))
 not : ¬ WC P L b R s.p s.V s.d s.ρ
theorem end_well {a : Act} {V : World} {d : Nat} {τ : Tp} (h : WellC P b R (mach (Pos.g b psn [frC P] (.base a [])) (re V τ d))) (lv : LV P V) : R a V /\ a.defers = []:=by
 obtain ⟨n,a',w',hr,hv⟩:=h
 obtain ⟨o,ho⟩:=psn_ended (P:=P) b a (re V τ d)
 have e:=runN_ended (m:=mach (Pos.g b psn [frC P] (.base a [])) (re V τ d)) ho hr
 simp [mach,lone,Pos.g,G,Frame.at] at e
 obtain ⟨e1,e2,e3⟩:=e
 have ea : a' = a:=by cases a; cases a'; simp_all
 rw [← ea]
 refine ⟨?_,hv.2⟩
 have hn : norm w' = V:=by rw [e1]; exact lv.nrm
 rw [hn] at hv
 exact hv.1
theorem InvC.next (hP : Calm P L) (hb : b.kind = .normal) (hbf : ∃ fn,P.funcs[b.fn]? = some fn) {s : StC} (h : InvC P L b R s) : ∃ s',InvC P L b R s' /\ s.d <= s'.d /\ Upto s.d s.ρ s'.ρ /\ (∀ a,s.p ≠ .base a []) /\ ∀ τ,Upto s'.d s'.ρ τ -> step P (mach (s.p.g b psn [frC P]) (re s.V τ s.d)) = .next (mach (s'.p.g b psn [frC P]) (re s'.V τ s'.d)):=by
 obtain ⟨p,V,d,ρ⟩:=s
 obtain ⟨ok,lv,hT,hnot⟩:=h
 dsimp only at ok lv hT hnot ⊢
 by_cases he : ∀ a,p ≠ .base a []
 . have hpr:=fun {τ : Tp} (hτ : Upto d ρ τ)=>progress_c hP hb hbf ok lv he hT hτ
   refine Classical.byContradiction fun hno=>hnot (.step ok he (fun τ hτ=>?_) fun τ p' W' es hτ hp' hst=>?_)
   . obtain ⟨p',W',es,e,hp',_⟩:=hpr hτ
     exact ⟨p',W',es,hp',e⟩
   . refine Classical.byContradiction fun hw=>?_
     obtain ⟨p2,W2,es2,e,ok2,lv2,hd2,hr2,hT2⟩:=hpr hτ
     rw [e] at hst
     injection hst with he1 he2 he3
     subst he2
     rw [he1] at hr2 hT2
     exact hno ⟨⟨p',norm W2,W2.drawn,τ⟩,⟨hp',lv2,hT2,hw⟩,hd2,hτ,he,fun τ' hu=>let ⟨_,e⟩:=hr2 τ' hu; step_mach p.form (Pos.form p') e⟩
 . exfalso
   obtain ⟨a,rfl⟩ : ∃ a,p = .base a []:=Classical.byContradiction fun h=>he fun a h'=>h ⟨a,h'⟩
   obtain ⟨h1,h2⟩:=end_well (hT ρ fun _ _ _=>rfl) lv
   exact hnot (.stop h1 h2)
theorem wc_of_well (hP : Calm P L) (hb : b.kind = .normal) (hbf : ∃ fn,P.funcs[b.fn]? = some fn) {p : Pos} {V : World} {d : Nat} {ρ : Tp} (ok : PosOk P L p) (lv : LV P V) (hT : ∀ τ,Upto d ρ τ -> WellC P b R (mach (p.g b psn [frC P]) (re V τ d))) : WC P L b R p V d ρ:=by
 refine Classical.byContradiction fun hno=>?_
 have hch : ∃ f : Nat -> StC,f 0 = ⟨p,V,d,ρ⟩ /\ ∀ i,InvC P L b R (f i) /\ (f i).d <= (f (i + 1)).d /\ Upto (f i).d (f i).ρ (f (i + 1)).ρ /\ (∀ a,(f i).p ≠ .base a []) /\ ∀ τ,Upto (f (i + 1)).d (f (i + 1)).ρ τ -> step P (mach ((f i).p.g b psn [frC P]) (re (f i).V τ (f i).d)) = .next (mach ((f (i + 1)).p.g b psn [frC P]) (re (f (i + 1)).V τ (f (i + 1)).d)):=by
   let g : Nat -> { s : StC // InvC P L b R s }:=fun n=>n.rec ⟨⟨p,V,d,ρ⟩,ok,lv,hT,hno⟩ fun _ s=>⟨(InvC.next hP hb hbf s.2).choose,(InvC.next hP hb hbf s.2).choose_spec.1⟩
   exact ⟨fun i=>(g i).1,rfl,fun i=>⟨(g i).2,(InvC.next hP hb hbf (g i).2).choose_spec.2⟩⟩
 obtain ⟨f,hf0,hf⟩:=hch
 have mono : ∀ i k,(f i).d <= (f (i + k)).d /\ Upto (f i).d (f i).ρ (f (i + k)).ρ:=by
   intro i k
   induction k with
   | zero=>exact ⟨Nat.le_refl _,fun _ _ _=>rfl⟩
   | succ k ih=>exact ⟨Nat.le_trans ih.1 (hf (i + k)).2.1,ih.2.trans ih.1 (hf (i + k)).2.2.1⟩
 let t : Tp:=fun p q=>@dite _ (∃ i,p < (f i).d) (Classical.propDecidable _) (fun h=>(f h.choose).ρ p q) (fun _=>0)
 have ht : ∀ i,Upto (f i).d (f i).ρ t:=by
   intro i p hp q
   have hex : ∃ i,p < (f i).d:=⟨i,hp⟩
   show @dite _ (∃ i,p < (f i).d) (Classical.propDecidable _) (fun h=>(f h.choose).ρ p q) (fun _=>0) = _
   rw [dif_pos hex]
   have hj:=hex.choose_spec
   generalize hex.choose = j at hj ⊢
   rcases Nat.le_total i j with h | h
   . obtain ⟨k,rfl⟩:=Nat.exists_eq_add_of_le h
     exact (mono i k).2 p hp q
   . obtain ⟨k,rfl⟩:=Nat.exists_eq_add_of_le h
     exact ((mono j k).2 p hj q).symm
 have run : ∀ n i,runN P n (mach ((f i).p.g b psn [frC P]) (re (f i).V t (f i).d)) = .next (mach ((f (i + n)).p.g b psn [frC P]) (re (f (i + n)).V t (f (i + n)).d)):=by
   intro n
   induction n with
   | zero=>intro i; rfl
   | succ n ih =>
     intro i
     simp only [runN,(hf i).2.2.2.2 t (ht (i + 1))]
     rw [ih (i + 1),show i + 1 + n = i + (n + 1) by omega]
 obtain ⟨n,a,w',hr,_⟩:=(hf 0).1.well t (ht 0)
 rw [run n 0] at hr
 exact pos_run (hf (0 + n)).1.ok (hf (0 + n)).2.2.2.1 (Stepped.next.inj hr)
end
end Go.Proofs.Ytibcdikfbhmheaa
