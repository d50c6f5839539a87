import Derived.Test.YtibcdikfbhmheaaB01
set_option linter.unusedSimpArgs false
set_option linter.unusedVariables false
namespace Go.Proofs.Ytibcdikfbhmheaa
open Go
section
variable {P : Program} {Z : Cuts}
theorem sim_typeInfo {t : TypeId} : SimOk P Z (fun _=>True) (typeInfo t):=by
 unfold typeInfo
 refine sim_program ?_
 split
 . exact sim_pure trivial
 . exact sim_stuck
theorem sim_underlyingA {t : TypeId} : SimOk P Z (fun d=>P.underlying t = some d) (underlying t):=by
 unfold underlying
 refine sim_program ?_
 split
 . rename_i h; exact sim_pure h
 . exact sim_stuck
theorem sim_underlying {t : TypeId} : SimOk P Z (fun _=>True) (underlying t):=sim_mono sim_underlyingA fun _ _=>trivial
theorem sim_zeroValue {t : TypeId} : SimOk P Z (fun _=>True) (zeroValue t):=by
 unfold zeroValue
 refine sim_bind sim_typeInfo fun i _=>?_
 split
 . exact sim_pure trivial
 . exact sim_unsupported (by simp)
theorem sim_sizeOf {t : TypeId} : SimOk P Z (fun _=>True) (sizeOf t):=by
 unfold sizeOf
 exact sim_bind sim_typeInfo fun i _=>sim_pure trivial
theorem sim_sizeOfA {t : TypeId} : SimOk P Z (fun n=>∃ i,P.info? t = some i /\ i.size = n) (sizeOf t):=by
 unfold sizeOf typeInfo
 refine sim_bind (A:=fun i=>P.info? t = some i) ?_ fun i hi=>sim_pure ⟨i,hi,rfl⟩
 refine sim_program ?_
 split
 . rename_i h; exact sim_pure h
 . exact sim_stuck
theorem sim_isAgg {t : TypeId} : SimOk P Z (fun _=>True) (isAgg t):=by
 unfold isAgg
 refine sim_bind sim_underlying fun d _=>?_
 split <;> exact sim_pure trivial
theorem sim_loadCellsFrom {a : Addr} : ∀ {n i : Nat} {acc : Array Value},SimOk P Z (fun _=>True) (loadCellsFrom a i n acc)
 | 0,_,_=>sim_pure trivial
 | n + 1,_,_=>sim_bind sim_load fun _ _=>sim_loadCellsFrom
theorem sim_loadCells {a : Addr} {n : Nat} : SimOk P Z (fun _=>True) (loadCells a n):=sim_loadCellsFrom
theorem sim_storeCells {a : Addr} : ∀ {vs : List Value} {i : Nat},SimOk P Z (fun _=>True) (storeCells a vs i)
 | [],_=>sim_pure trivial
 | v :: rest,_=>sim_bind sim_store fun _ _=>sim_storeCells
theorem sim_loadVar {t : TypeId} {a : Addr} : SimOk P Z (fun _=>True) (loadVar t a):=by
 unfold loadVar
 refine sim_bind sim_isAgg fun b _=>?_
 split
 . exact sim_bind sim_sizeOf fun _ _=>sim_bind sim_loadCells fun _ _=>sim_pure trivial
 . exact sim_load
theorem sAB020 {p : Prop} (h : p:=by
 (repeat' (first | exact sim_pure trivial | exact sim_stuck | exact sim_panic | exact sim_unsupported (by simp) | exact sim_load | exact sim_store | exact sim_newObj (by simp) | exact sim_typeInfo | exact sim_underlying | exact sim_zeroValue | exact sim_sizeOf | exact sim_isAgg | exact sim_loadCells | exact sim_storeCells | (refine sim_bind (A:=fun _=>True) ?_ (fun _ _=>?_)) | (with_reducible refine sim_ite (fun _=>?_) (fun _=>?_)) | split | dsimp only))) : p:=h
theorem sim_storeVar {t : TypeId} {a : Addr} {v : Value} : SimOk P Z (fun _=>True) (storeVar t a v):=by
 unfold storeVar
 exact sAB020
theorem sim_newRow {t : TypeId} {c : Array Value} : SimOk P Z (fun _=>True) (newRow t c):=by
 unfold newRow
 exact sAB020
theorem sim_newVar {t : TypeId} {v : Value} : SimOk P Z (fun _=>True) (newVar t v):=sim_newRow
theorem sim_elemOf {t : TypeId} : SimOk P Z (fun _=>True) (elemOf t):=by
 unfold elemOf
 exact sAB020
theorem sim_part {t : TypeId} {cs : Array Value} {o : Nat} : SimOk P Z (fun _=>True) (part t cs o):=by
 unfold part
 exact sAB020
theorem sim_asIntOf {v : Value} : SimOk P Z (fun _=>True) (asIntOf v):=by
 unfold asIntOf
 exact sAB020
theorem sim_asInt {v : Value} : SimOk P Z (fun _=>True) (asInt v):=sim_bind sim_asIntOf fun _ _=>sim_pure trivial
theorem sim_asBool {v : Value} : SimOk P Z (fun _=>True) (asBool v):=by
 unfold asBool
 exact sAB020
theorem sim_asString {v : Value} : SimOk P Z (fun _=>True) (asString v):=by
 unfold asString
 exact sAB020
theorem sim_asAgg {v : Value} : SimOk P Z (fun _=>True) (asAgg v):=by
 unfold asAgg
 exact sAB020
theorem sim_sureAddr {v : Value} : SimOk P Z (fun _=>True) (Instr.sureAddr v):=by
 unfold Instr.sureAddr
 exact sAB020
theorem sim_runtimePanicA {α : Type} {A : α -> Prop} {e : RuntimeError} : SimOk P Z A (runtimePanic e : Sem α):=by
 unfold runtimePanic
 refine sim_program ?_
 split
 . exact sim_panic
 . exact sim_panic
 . exact sim_panic
 . exact sim_panic
 . exact sim_bind sim_elemOf fun _ _=>sim_bind sim_newVar fun _ _=>sim_panic
 . exact sim_bind sim_elemOf fun _ _=>sim_bind sim_newVar fun _ _=>sim_panic
 . exact sim_panic
theorem sim_runtimePanic {α : Type} {e : RuntimeError} : SimOk P Z (fun _=>True) (runtimePanic e : Sem α):=sim_runtimePanicA
theorem sim_asAddr {v : Value} : SimOk P Z (fun _=>True) (asAddr v):=by
 unfold asAddr
 split
 . exact sim_pure trivial
 . exact sim_runtimePanic
 . exact sim_stuck
theorem sim_mark {m : Mark} (hm : m = .noRoom ∨ ∃ f,m = .extern f) : SimOk P Z (fun _=>True) (mark m):=fun W w es hn hf=>by
 show SimOut P Z _ (.mark m (.pure ())) W w es (.ok () W)
 refine ⟨trivial,Nat.le_refl _,rfl,fun _=>⟨w,es.push ⟨.mark m,false,true⟩,rfl,hn,hf,Hidden.refl w,rfl,evs_push ?_⟩⟩
 rcases hm with rfl | ⟨f,rfl⟩ <;> exact trivial
theorem sim_askRoom {n : Nat} : SimOk P Z (fun _=>True) (askRoom n):=by
 unfold askRoom
 split
 . exact sim_mark (.inl rfl)
 . exact sim_pure trivial
theorem sim_boundsPanic {α : Type} {k : IntKind} {x y : Int} {c : BoundsCode} : SimOk P Z (fun _=>True) (boundsPanic k x y c : Sem α):=by
 unfold boundsPanic
 split
 . refine sim_bind (A:=fun _=>True) ?_ fun _ _=>sim_runtimePanic
   exact sim_choose (k:=fun n=>pure (n == 1)) fun _=>sim_pure trivial
 . exact sim_bind (sim_pure (A:=fun _=>True) trivial) fun _ _=>sim_runtimePanic
theorem sim_behindNumber {n : Addr} : SimOk P Z (fun _=>True) (behindNumber n):=sim_bind sim_numberAt fun _ _=>sim_pure trivial
theorem sim_asNumber {a : Addr} {l : Bool} : SimOk P Z (fun _=>True) (asNumber a l):=sim_bind (sim_newObj (by simp)) fun _ _=>sim_pure trivial
theorem sem_assoc {α β γ : Type} (s : Sem α) (f : α -> Sem β) (g : β -> Sem γ) : (s >>= f) >>= g = s >>= fun a=>f a >>= g:=by
 show (s.bind f).bind g = s.bind fun a=>(f a).bind g
 induction s with
 | pure a=>rfl
 | load m a k ih=>simp only [Sem.bind,ih]
 | store m a v k ih=>simp only [Sem.bind,ih]
 | new o k ih=>simp only [Sem.bind,ih]
 | shape r k ih=>simp only [Sem.bind,ih]
 | freeze a n k ih=>simp only [Sem.bind,ih]
 | frozen a k ih=>simp only [Sem.bind,ih]
 | getObj r k ih=>simp only [Sem.bind,ih]
 | setObj r o k ih=>simp only [Sem.bind,ih]
 | choose q k ih=>simp only [Sem.bind,ih]
 | sys c k ih=>simp only [Sem.bind,ih]
 | program k ih=>simp only [Sem.bind,ih]
 | mark m k ih=>simp only [Sem.bind,ih]
 | halt h=>rfl
theorem sim_noView {α : Type} {A : α -> Prop} {a : Addr} {k : Unit -> Sem α} (h : SimOk P Z A (k ())) : SimOk P Z A (noView a >>= k):=by
 unfold noView
 rw [sem_assoc]
 refine sim_viewAt (fun x=>?_) h
 exact Doom.bind (doom_uns (by simp))
theorem sAB021 {p : Prop} (h : p:=by
 (repeat' (first | (with_reducible first|exact sim_pure trivial|exact sim_stuck|exact sim_panic|exact sim_runtimePanic|exact sim_boundsPanic|exact sim_load|exact sim_store|exact sim_numberAt|exact sim_typeInfo|exact sim_underlying|exact sim_zeroValue|exact sim_sizeOf|exact sim_isAgg|exact sim_loadCells|exact sim_storeCells|exact sim_loadVar|exact sim_storeVar|exact sim_newRow|exact sim_newVar|exact sim_part|exact sim_asIntOf|exact sim_asInt|exact sim_asBool|exact sim_asString|exact sim_asAgg|exact sim_asAddr|exact sim_sureAddr|exact sim_askRoom) | exact sim_unsupported (by simp) | exact sim_setObj (by simp) | exact sim_newObj (by simp) | (with_reducible refine sim_getObj ?_ ?_; (· exact fun _ _=>⟨_,rfl⟩); intro _) | (with_reducible refine sim_choose (fun _=>?_)) | (with_reducible refine sim_program ?_) | (with_reducible refine sim_bind (A:=fun _=>True) ?_ (fun _ _=>?_)) | (with_reducible refine sim_ite (fun _=>?_) (fun _=>?_)) | split | dsimp only))) : p:=h
theorem sim_byteOf {a : Addr} (hz : ∀ lo hi,Z a.block ≠ some (0,lo,hi)) : SimOk P Z (fun _=>True) (byteOf a):=by
 unfold byteOf
 split
 . exact sim_pure trivial
 . refine sim_program ?_
   refine sim_noView ?_
   refine sim_shape (fun s=>?_) (fun e n n' _=>.inl fun _ _=>rfl) (fun _ ⟨lo,hi,h⟩=>absurd h (hz lo hi))
   exact sAB021
theorem sim_fit {α : Type} {A : α -> Prop} {s : Sem α} (h : (∀ b s,Z b = some s -> P.globals.size <= b) -> SimOk P Z A s) : SimOk P Z A s:=fun W w es hn hf=>h (fun b s hz=>(hf.cut b s hz).1) W w es hn hf
theorem cellAtBytes_mono {d e n1 n2 off o : Nat} {b : Int} (h : n1 <= n2) (h1 : cellAtBytes P d e n1 off b = some o) : cellAtBytes P d e n2 off b = some o:=by
 unfold cellAtBytes at *
 dsimp only at *
 split at h1
 . cases h1
 . rename_i hs
   rw [if_neg hs]
   simp only [bind,Option.bind] at *
   cases hb : byteOfCell P d e (off % P.cellsOf e) with
   | none=>rw [hb] at h1; cases h1
   | some x =>
     rw [hb] at h1
     dsimp only at h1 ⊢
     split at h1
     . cases h1
     . rename_i hr
       rw [if_neg]
       . exact h1
       . intro hc
         apply hr
         simp only [Bool.or_eq_true,decide_eq_true_eq] at hc ⊢
         rcases hc with hc | hc
         . exact .inl hc
         . right
           have : n1 * P.bytesOf e <= n2 * P.bytesOf e:=Nat.mul_le_mul_right _ h
           have : Int.ofNat (n1 * P.bytesOf e) <= Int.ofNat (n2 * P.bytesOf e):=Int.ofNat_le.2 this
           omega
theorem sim_unsafeAdd {x : Array TypeId} {t : TypeId} {args : Array Value} : SimOk P Z (fun _=>True) (Builtin.unsafeAdd_ x t args):=by
 unfold Builtin.unsafeAdd_
 dsimp only
 obtain ⟨l⟩:=args
 rcases l with _ | ⟨a0,_ | ⟨a1,_ | ⟨a2,l⟩⟩⟩
 . exact sim_stuck
 . exact sim_stuck
 . cases a0
   case pointer ptr =>
     refine sim_bind sim_asInt fun n _=>?_
     cases ptr with
     | none=>(repeat' (first | (with_reducible first|exact sim_pure trivial|exact sim_stuck|exact sim_panic|exact sim_runtimePanic|exact sim_boundsPanic|exact sim_load|exact sim_store|exact sim_numberAt|exact sim_typeInfo|exact sim_underlying|exact sim_zeroValue|exact sim_sizeOf|exact sim_isAgg|exact sim_loadCells|exact sim_storeCells|exact sim_loadVar|exact sim_storeVar|exact sim_newRow|exact sim_newVar|exact sim_part|exact sim_asIntOf|exact sim_asInt|exact sim_asBool|exact sim_asString|exact sim_asAgg|exact sim_asAddr|exact sim_sureAddr|exact sim_askRoom) | exact sim_unsupported (by simp) | exact sim_setObj (by simp) | exact sim_newObj (by simp) | (with_reducible refine sim_getObj ?_ ?_; (· exact fun _ _=>⟨_,rfl⟩); intro _) | (with_reducible refine sim_choose (fun _=>?_)) | (with_reducible refine sim_program ?_) | (with_reducible refine sim_bind (A:=fun _=>True) ?_ (fun _ _=>?_)) | (with_reducible refine sim_ite (fun _=>?_) (fun _=>?_)) | split | dsimp only))
     | some a =>
       dsimp only
       split
       . refine sim_viewAt (fun x=>?_) (sim_pure trivial)
         exact Doom.bind (doom_uns (by simp))
       . split
         . exact sAB021
         . refine sim_shape (fun s=>?_) (fun e n1 n2 hnn=>?_) (fun hb _=>?_)
           . exact sAB021
           . cases hc : cellAtBytes P P.depth e (n1 / P.cellsOf e) a.off n with
             | none=>exact .inr fun W=>⟨_,by show Sem.run P (match cellAtBytes P P.depth e (n1 / P.cellsOf e) a.off n with | some off=>pure _ | none=>unsupported _) W = _; rw [hc]; rfl,.inr ⟨_,rfl,by simp⟩⟩
             | some o =>
               refine .inl fun w es=>?_
               show Sem.runT P (match cellAtBytes P P.depth e (n1 / P.cellsOf e) a.off n with | some off=>pure _ | none=>unsupported _) w es = Sem.runT P (match cellAtBytes P P.depth e (n2 / P.cellsOf e) a.off n with | some off=>pure _ | none=>unsupported _) w es
               rw [hc,cellAtBytes_mono (Nat.div_le_div_right hnn) hc]
           . refine fun W => ⟨.unsupported (.unsafePointer "Add"), ?_, .inr ⟨_, rfl, by simp⟩⟩
             show Sem.run P (match cellAtBytes P P.depth tBad (0 / P.cellsOf tBad) a.off n with | some off=>pure _ | none=>unsupported _) W = _
             have h0 : P.cellsOf tBad = 0:=by simp [Program.cellsOf,hb]
             have : cellAtBytes P P.depth tBad (0 / P.cellsOf tBad) a.off n = none:=by unfold cellAtBytes; simp [h0]
             rw [this]
             rfl
   all_goals exact sim_stuck
 . cases a0 <;> exact sim_stuck
theorem sim_addrMod {k : IntKind} {a : Addr} {n : Int} : SimOk P Z (fun _=>True) (Op.addrMod k a n):=by
 unfold Op.addrMod
 by_cases hz : ∃ lo hi,Z a.block = some (0,lo,hi)
 . obtain ⟨lo,hi,hz⟩:=hz
   intro W w es hn hf
   rcases shape_of_norm hn hf a.block with h | ⟨kk,lo',hi',e,n',h,_⟩ | ⟨_,_,_,h,_⟩
   . obtain ⟨_,_,_,_,_,_,hc⟩:=hf.chans _ _ _ hz
     have:=heap_of_norm hn a.block
     rw [hc,hz] at this
     simp [World.shape?,this,hc,pobj] at h
   . rw [hz] at h; cases h
   . rw [run_shape,h]
     refine Doom.out (Doom.bind fun W => ⟨.stuck "no such type", ?_, .inl ⟨_, rfl⟩⟩)
     show Sem.run P (match P.info? tBad with | some i => pure i | none => stuck "no such type") W = _
     rw [hf.bad]
     rfl
 . have hz' : ∀ lo hi,Z a.block ≠ some (0,lo,hi):=fun lo hi h=>hz ⟨lo,hi,h⟩
   refine sim_shape (fun s=>?_) (fun e n1 n2 hnn=>.inl fun w es=>rfl) (fun _ ⟨lo,hi,h⟩=>absurd h (hz' lo hi))
   split
   . refine sim_bind sim_typeInfo fun ti _=>?_
     dsimp only
     split
     . refine sim_bind (sim_unsupported (A:=fun _=>True) (by simp)) fun _ _=>?_
       refine sim_bind (sim_byteOf hz') fun _ _=>sim_pure trivial
     . refine sim_bind (sim_byteOf hz') fun _ _=>sim_pure trivial
   . exact sAB021
theorem sim_twoPlaces {a b : Addr} : SimOk P Z (fun _=>True) (Op.twoPlaces a b):=by
 refine sim_fit fun hZ=>?_
 unfold Op.twoPlaces
 refine sim_program ?_
 dsimp only
 split
 . refine sim_bind (sim_unsupported (A:=fun _=>False) (by simp)) fun _ h=>h.elim
 . rename_i h
   simp only [bne_iff_ne,ne_eq,ge_iff_le,Bool.or_eq_true,decide_eq_true_eq,not_or,Decidable.not_not,Nat.not_le] at h
   obtain ⟨h1,h2⟩:=h
   refine sim_bind (sim_byteOf fun lo hi hz=>by have:=hZ _ _ hz; omega) fun _ _=>?_
   refine sim_bind (sim_byteOf fun lo hi hz=>by have:=hZ _ _ hz; omega) fun _ _=>sim_pure trivial
theorem sim_addrSub {k : IntKind} {a b : Addr} : SimOk P Z (fun _=>True) (Op.addrSub k a b):=sim_bind sim_twoPlaces fun _ _=>sim_pure trivial
theorem sim_addrCmp {op : BinOp} {a b : Addr} : SimOk P Z (fun _=>True) (Op.addrCmp op a b):=by
 unfold Op.addrCmp
 refine sim_bind sim_twoPlaces fun _ _=>?_
 exact sAB021
theorem sim_movedNumber {t : TypeId} {x y : Value} : SimOk P Z (fun _=>True) (movedNumber t x y):=by
 unfold movedNumber
 refine sim_bind sim_underlying fun d _=>?_
 dsimp only
 have tail : SimOk P Z (fun _=>True) (match x with
     | .pointer (some n)=>do
       let __x ← behindNumber n
       match __x with
         | (a,lost)=>do
           let __do_lift ← Builtin.unsafeAdd_ #[] t #[.pointer (some a),y]
           match __do_lift with
             | .pointer (some b)=>asNumber b lost
             | v=>pure v
     | __x=>Builtin.unsafeAdd_ #[] t #[x,y]):=by
   split
   . refine sim_bind sim_behindNumber fun _ _=>?_
     refine sim_bind sim_unsafeAdd fun _ _=>?_
     split
     . exact sim_asNumber
     . exact sim_pure trivial
   . exact sim_unsafeAdd
 split
 . exact sim_bind (sim_unsupported (A:=fun _=>True) (by simp)) fun _ _=>tail
 . exact tail
theorem sim_movedPointer {t : TypeId} {x y : Value} : SimOk P Z (fun _=>True) (movedPointer t x y):=by
 unfold movedPointer
 dsimp only
 split
 . refine sim_bind sim_numberAt fun _ _=>?_
   split
   . exact sim_bind (sim_unsupported (A:=fun _=>True) (by simp)) fun _ _=>sim_unsafeAdd
   . exact sim_unsafeAdd
 . exact sim_unsafeAdd
theorem sim_floatArith {op : BinOp} {k : FloatKind} {x y : Nat} : SimOk P Z (fun _=>True) (Op.floatArith op k x y):=by
 unfold Op.floatArith
 exact sAB021
theorem sim_floatCmp {op : BinOp} {k : FloatKind} {x y : Nat} : SimOk P Z (fun _=>True) (Op.floatCmp op k x y):=by
 unfold Op.floatCmp
 exact sAB021
theorem sim_floatToFloat {k d : FloatKind} {x : Nat} : SimOk P Z (fun _=>True) (Conv.floatToFloat k x d):=by
 unfold Conv.floatToFloat
 exact sAB021
theorem sim_carith {op : BinOp} {k : FloatKind} {x y : Nat} : SimOk P Z (fun _=>True) (Op.Complex.arith op k x y):=by
 unfold Op.Complex.arith
 refine sim_bind sim_floatArith fun _ _=>?_
 exact sAB021
theorem sim_ccmp {op : BinOp} {k : FloatKind} {x y : Nat} : SimOk P Z (fun _=>True) (Op.Complex.cmp op k x y):=sim_bind sim_floatCmp fun _ _=>sim_asBool
theorem sim_cconv {k d : FloatKind} {x : Nat} : SimOk P Z (fun _=>True) (Op.Complex.conv k x d):=by
 unfold Op.Complex.conv
 split
 . exact sim_pure trivial
 . refine sim_bind sim_floatToFloat fun _ _=>?_
   exact sAB021
set_option maxHeartbeats 1000000 in
theorem sim_product {a b c d : Nat} : SimOk P Z (fun _=>True) (Op.Complex.product a b c d):=by
 unfold Op.Complex.product Op.Complex.sub Op.Complex.mul Op.Complex.add
 repeat' (first | (with_reducible first|exact sim_pure trivial|exact sim_carith) | (with_reducible refine sim_bind (A:=fun _=>True) ?_ (fun _ _=>?_)))
theorem sim_corrected {s a b c d : Nat} : SimOk P Z (fun _=>True) (Op.Complex.corrected s a b c d):=by
 unfold Op.Complex.corrected Op.Complex.sub Op.Complex.mul Op.Complex.add
 repeat' (first | (with_reducible first|exact sim_pure trivial|exact sim_carith) | (with_reducible refine sim_bind (A:=fun _=>True) ?_ (fun _ _=>?_)))
set_option maxHeartbeats 1000000 in
theorem sim_quotient {a b c d : Nat} : SimOk P Z (fun _=>True) (Op.Complex.quotient a b c d):=by
 unfold Op.Complex.quotient Op.Complex.sub Op.Complex.mul Op.Complex.add Op.Complex.quo
 repeat' (first | (with_reducible first|exact sim_pure trivial|exact sim_carith|exact sim_ccmp|exact sim_corrected) | (with_reducible refine sim_bind (A:=fun _=>True) ?_ (fun _ _=>?_)) | split | dsimp only)
theorem sim_complexOp {op : BinOp} {k : FloatKind} {a b c d : Nat} : SimOk P Z (fun _=>True) (Op.complexOp op k a b c d):=by
 unfold Op.complexOp
 repeat' (first | (with_reducible first|exact sim_pure trivial|exact sim_stuck|exact sim_carith|exact sim_ccmp|exact sim_cconv|exact sim_product|exact sim_quotient) | (with_reducible refine sim_bind (A:=fun _=>True) ?_ (fun _ _=>?_)) | split | dsimp only)
theorem sim_intArith {op : BinOp} {k : IntKind} {x y : Int} : SimOk P Z (fun _=>True) (Op.intArith op k x y):=by
 unfold Op.intArith
 exact sAB021
theorem sim_intDiv {op : BinOp} {k : IntKind} {x y : Int} : SimOk P Z (fun _=>True) (Op.intDiv op k x y):=by
 unfold Op.intDiv
 exact sAB021
theorem sim_intBits {op : BinOp} {k : IntKind} {x y : Int} : SimOk P Z (fun _=>True) (Op.intBits op k x y):=by
 unfold Op.intBits
 exact sAB021
theorem sim_intCmp {op : BinOp} {x y : Int} : SimOk P Z (fun _=>True) (Op.intCmp op x y):=by
 unfold Op.intCmp
 exact sAB021
theorem sim_shift {op : BinOp} {k j : IntKind} {x y : Int} : SimOk P Z (fun _=>True) (Op.shift op k x j y):=by
 unfold Op.shift
 exact sAB021
theorem sim_stringOp {op : BinOp} {x y : ByteArray} : SimOk P Z (fun _=>True) (Op.stringOp op x y):=by
 unfold Op.stringOp
 exact sAB021
theorem sim_binOp {op : BinOp} {t : TypeId} {x y : Value} (he : op = .eql ∨ op = .neq -> SimOk P Z (fun _=>True) (Op.equal t x y)) : SimOk P Z (fun _=>True) (binOp op t x y):=by
 unfold binOp
 split
 all_goals first
   | exact sim_shift
   | exact sim_stringOp
   | exact sim_stuck
   | exact sim_unsupported (by simp)
   | exact sim_bind (he (.inl rfl)) fun _ _=>sim_pure trivial
   | exact sim_bind (he (.inr rfl)) fun _ _=>sim_pure trivial
   | exact sim_movedNumber
   | exact sim_bind sim_behindNumber fun _ _=>sim_bind sim_behindNumber fun _ _=>sim_addrSub
   | exact sim_bind sim_behindNumber fun _ _=>sim_bind sim_behindNumber fun _ _=>sim_addrCmp
   | exact sim_bind sim_behindNumber fun _ _=>sim_addrMod
   | (refine sim_bind sim_underlying fun _ _=>?_; split <;> first | exact sim_movedPointer | exact sim_movedNumber)
   | (split
      . exact sim_stuck
      . first
        | exact sim_complexOp
        | (split <;> first | exact sim_intArith | exact sim_intDiv | exact sim_intBits | exact sim_intCmp | exact sim_floatArith | exact sim_floatCmp))
end
def plainTy (P : Program) (t : TypeId) : Bool :=
 match P.underlying t with
 | some .bool | some (.int _) | some .string=>true
 | _=>false
section
variable {P : Program} {Z : Cuts}
theorem sim_equal_plain {d : Nat} {t : TypeId} {x y : Value} (ht : plainTy P t = true) : SimOk P Z (fun _=>True) (Op.equalIn (d + 1) t x y):=by
 unfold Op.equalIn
 refine sim_bind sim_underlyingA fun D hD=>?_
 unfold plainTy at ht
 rw [hD] at ht
 cases D with
 | bool=>dsimp only; split <;> first | exact sim_pure trivial | exact sim_stuck | simp_all
 | string=>dsimp only; split <;> first | exact sim_pure trivial | exact sim_stuck | simp_all
 | int k =>
   dsimp only
   split
   all_goals first
     | exact sim_pure trivial
     | exact sim_stuck
     | exact sim_unsupported (by simp)
     | (split <;> first | exact sim_pure trivial | exact sim_stuck)
     | (cases ‹TypeDesc.int _ = _›; done)
     | skip
   refine sim_fit fun hZ=>?_
   refine sim_bind sim_behindNumber fun _ _=>sim_bind sim_behindNumber fun _ _=>?_
   refine sim_program ?_
   split
   . rename_i h
     simp only [Bool.and_eq_true,beq_iff_eq,decide_eq_true_eq] at h
     refine sim_bind (sim_byteOf fun lo hi hz=>by have:=hZ _ _ hz; omega) fun _ _=>?_
     exact sim_bind (sim_byteOf fun lo hi hz=>by have:=hZ _ _ hz; omega) fun _ _=>sim_pure trivial
   . refine sim_bind sim_typeInfo fun _ _=>?_
     exact sAB021
 | _=>cases ht
theorem sim_forIn {α β : Type} : ∀ {l : List α} {b : β} {f : α -> β -> Sem (ForInStep β)},(∀ a ∈ l,∀ b,SimOk P Z (fun _=>True) (f a b)) -> SimOk P Z (fun _=>True) (forIn l b f)
 | [],b,f,_=>by rw [List.forIn_nil]; exact sim_pure trivial
 | a :: l,b,f,h=>by
   rw [List.forIn_cons]
   refine sim_bind (h a (by simp) b) fun s _=>?_
   split
   . exact sim_pure trivial
   . exact sim_forIn fun a' ha'=>h a' (by simp [ha'])
def eqTy (P : Program) (t : TypeId) : Bool :=
 match P.underlying t with
 | some (.struct fs)=>fs.toList.all fun f=>plainTy P f.type
 | _=>plainTy P t
theorem sim_equal_struct {d : Nat} {t : TypeId} {x y : Value} {fs : Array Field} (ht : P.underlying t = some (.struct fs)) (hf : fs.toList.all (fun f=>plainTy P f.type) = true) : SimOk P Z (fun _=>True) (Op.equalIn (d + 2) t x y):=by
 unfold Op.equalIn
 refine sim_bind sim_underlyingA fun D hD=>?_
 rw [ht] at hD
 obtain rfl:=Option.some.inj hD
 cases x
 case agg xs =>
   cases y
   case agg ys =>
     dsimp only
     refine sim_program ?_
     split
     . refine sim_bind (sim_unsupported (A:=fun _=>False) (by simp)) fun _ h=>h.elim
     . refine sim_bind (A:=fun _=>True) ?_ fun s _=>?_
       . rw [← Array.forIn_toList]
         refine sim_forIn fun f hfm b=>?_
         have hp:=List.all_eq_true.1 hf f hfm
         split
         . refine sim_bind sim_part fun _ _=>sim_bind sim_part fun _ _=>sim_bind (sim_equal_plain hp) fun _ _=>?_
           split <;> exact sim_pure trivial
         . exact sim_pure trivial
       . split <;> exact sim_pure trivial
   all_goals exact sim_stuck
 all_goals exact sim_stuck
theorem sim_equal {t : TypeId} {x y : Value} (ht : eqTy P t = true) : SimOk P Z (fun _=>True) (Op.equal t x y):=by
 show SimOk P Z (fun _=>True) (Op.equalIn (9998 + 2) t x y)
 unfold eqTy at ht
 split at ht
 . rename_i fs h
   exact sim_equal_struct h ht
 . exact sim_equal_plain ht
theorem sim_equal_nil {t : TypeId} {x : Value} (ht : ∃ e,P.underlying t = some (.pointer e)) : SimOk P Z (fun _=>True) (Op.equal t x (.pointer none)):=by
 show SimOk P Z (fun _=>True) (Op.equalIn (9999 + 1) t x (.pointer none))
 unfold Op.equalIn
 refine sim_bind sim_underlyingA fun D hD=>?_
 obtain ⟨e,he⟩:=ht
 rw [he] at hD
 obtain rfl:=Option.some.inj hD
 cases x
 case pointer p=>cases p <;> exact sim_pure trivial
 all_goals exact sim_stuck
theorem sim_equal_nilf {t : TypeId} {x : Value} (ht : ∃ a b c,P.underlying t = some (.func a b c)) : SimOk P Z (fun _=>True) (Op.equal t x .nilFunc):=by
 show SimOk P Z (fun _=>True) (Op.equalIn (9999 + 1) t x .nilFunc)
 unfold Op.equalIn
 refine sim_bind sim_underlyingA fun D hD=>?_
 obtain ⟨_,_,_,he⟩:=ht
 rw [he] at hD
 obtain rfl:=Option.some.inj hD
 cases x <;> first | exact sim_pure trivial | exact sim_stuck
theorem sim_eqGuardIn : ∀ {d : Nat} {t : TypeId} {x y : Value},SimOk P Z (fun _=>True) (Op.eqGuardIn d t x y)
 | 0,_,_,_=>sim_unsupported (by simp)
 | d + 1,t,x,y=>by
   unfold Op.eqGuardIn
   refine sim_bind sim_underlying fun D _=>?_
   split
   . exact sim_pure trivial
   . refine sim_bind (A:=fun _=>True) ?_ fun s _=>?_
     . rw [← Array.forIn_toList]
       refine sim_forIn fun f hfm b=>?_
       split
       . refine sim_bind sim_part fun _ _=>sim_bind sim_part fun _ _=>sim_bind sim_eqGuardIn fun _ _=>?_
         split <;> exact sim_pure trivial
       . exact sim_pure trivial
     . dsimp only; split <;> exact sim_pure trivial
   . refine sim_bind sim_sizeOf fun n _=>?_
     refine sim_bind (A:=fun _=>True) ?_ fun s _=>?_
     . rw [Std.Legacy.Range.forIn_eq_forIn_range']
       refine sim_forIn fun f hfm b=>?_
       refine sim_bind sim_part fun _ _=>sim_bind sim_part fun _ _=>sim_bind sim_eqGuardIn fun _ _=>?_
       split <;> exact sim_pure trivial
     . dsimp only; split <;> exact sim_pure trivial
   . exact sim_pure trivial
theorem sim_eqGuard {op : BinOp} {t : TypeId} {x y : Operand} {a b : Value} : SimOk P Z (fun _=>True) (eqGuard op t x y a b):=by
 unfold eqGuard
 repeat' (first | (with_reducible first|exact sim_pure trivial|exact sim_eqGuardIn) | exact sim_unsupported (by simp) | (with_reducible refine sim_program ?_) | (with_reducible refine sim_bind (A:=fun _=>True) ?_ (fun _ _=>?_)) | split | dsimp only)
theorem sim_alloc {t : TypeId} {b : Bool} {v : Value} : SimOk P Z (fun _=>True) (Instr.alloc t b v):=by
 unfold Instr.alloc
 exact sAB021
theorem sim_box {t : TypeId} {v : Value} : SimOk P Z (fun _=>True) (Instr.box t v):=by
 unfold Instr.box
 exact sAB021
theorem sim_mapM {α β : Type} {f : α -> Sem β} : ∀ {l : List α},(∀ a ∈ l,SimOk P Z (fun _=>True) (f a)) -> SimOk P Z (fun _=>True) (l.mapM f)
 | [],_=>by rw [List.mapM_nil]; exact sim_pure trivial
 | a :: l,h=>by
   rw [List.mapM_cons]
   exact sim_bind (h a (by simp)) fun _ _=>sim_bind (sim_mapM fun a' ha'=>h a' (by simp [ha'])) fun _ _=>sim_pure trivial
theorem sim_map {α β : Type} {A : α -> Prop} {s : Sem α} {f : α -> β} (h : SimOk P Z A s) : SimOk P Z (fun _=>True) (f <$> s):=by
 rw [map_eq_pure_bind]
 exact sim_bind h fun _ _=>sim_pure trivial
theorem sim_amapM {α β : Type} {f : α -> Sem β} {l : Array α} (h : ∀ a ∈ l.toList,SimOk P Z (fun _=>True) (f a)) : SimOk P Z (fun _=>True) (l.mapM f):=by
 rw [Array.mapM_eq_mapM_toList]
 exact sim_map (sim_mapM h)
theorem sim_build {t : TypeId} {parts : Array (Nat × Value)} : SimOk P Z (fun _=>True) (Instr.build t parts):=by
 unfold Instr.build
 refine sim_bind sim_zeroValue fun z _=>?_
 dsimp only
 refine sim_bind sim_underlying fun D _=>?_
 split
 . refine sim_bind (A:=fun _=>True) ?_ fun s _=>?_
   . exact sim_amapM fun f _=>sim_bind sim_sizeOf fun _ _=>sim_pure trivial
   . exact sAB021
 . exact sAB021
 . exact sAB021
theorem sim_buildSlice {t : TypeId} {n : Nat} {parts : Array (Nat × Value)} : SimOk P Z (fun _=>True) (Instr.buildSlice t n parts):=by
 unfold Instr.buildSlice
 exact sAB021
theorem sim_unary {op : UnOp} {x : Value} : SimOk P Z (fun _=>True) (Op.unary op x):=by
 unfold Op.unary
 repeat' (first | (with_reducible first|exact sim_intArith|exact sim_intBits|exact sim_pure trivial) | exact sim_stuck | exact sim_unsupported (by simp) | split)
theorem sim_indexAt {t : TypeId} {x i : Value} : SimOk P Z (fun _=>True) (Instr.indexAt t x i):=by
 unfold Instr.indexAt
 exact sAB021
theorem sim_index {t : TypeId} {x i : Value} : SimOk P Z (fun _=>True) (Instr.index t x i):=by
 unfold Instr.index
 exact sAB021
theorem sim_field {t : TypeId} {x : Value} {i : Nat} : SimOk P Z (fun _=>True) (Instr.field t x i):=by
 unfold Instr.field
 exact sAB021
theorem sim_extract {x : Value} {i : Nat} : SimOk P Z (fun _=>True) (Instr.extract x i):=by
 unfold Instr.extract
 exact sAB021
theorem sim_loadAt {t : TypeId} {x : Value} : SimOk P Z (fun _=>True) (Instr.loadAt t x):=sim_bind sim_sureAddr fun _ _=>sim_loadVar
theorem sim_storeAt {t : TypeId} {x v : Value} : SimOk P Z (fun _=>True) (Instr.storeAt t x v):=sim_bind sim_sureAddr fun _ _=>sim_storeVar
theorem sim_makeSlice {t : TypeId} {l c : Value} : SimOk P Z (fun _=>True) (Instr.makeSlice t l c):=by
 unfold Instr.makeSlice
 exact sAB021
theorem sim_sliceBound {x : Value} {y : Nat} {c : BoundsCode} : SimOk P Z (fun _=>True) (Instr.sliceBound x y c):=by
 unfold Instr.sliceBound
 exact sAB021
theorem sim_sliceBounds {b : Bool} {n c : Nat} {lo hi mx : Option Value} : SimOk P Z (fun _=>True) (Instr.sliceBounds b n c lo hi mx):=by
 unfold Instr.sliceBounds
 repeat' (first | (with_reducible first|exact sim_pure trivial|exact sim_stuck|exact sim_sliceBound) | (with_reducible refine sim_bind (A:=fun _=>True) ?_ (fun _ _=>?_)) | split | dsimp only)
theorem sim_slice {t : TypeId} {x : Value} {lo hi mx : Option Value} : SimOk P Z (fun _=>True) (Instr.slice t x lo hi mx):=by
 unfold Instr.slice
 repeat' (first | (with_reducible first|exact sim_pure trivial|exact sim_stuck|exact sim_sliceBounds|exact sim_underlying|exact sim_sizeOf|exact sim_asAddr) | (with_reducible refine sim_bind (A:=fun _=>True) ?_ (fun _ _=>?_)) | split | dsimp only)
theorem sim_sliceAt {t : TypeId} {x : Value} {lo hi mx : Option Value} : SimOk P Z (fun _=>True) (Instr.sliceAt t x lo hi mx):=by
 unfold Instr.sliceAt
 repeat' (first | (with_reducible first|exact sim_pure trivial|exact sim_slice|exact sim_sliceBounds|exact sim_underlying|exact sim_sizeOf|exact sim_sureAddr) | (with_reducible refine sim_bind (A:=fun _=>True) ?_ (fun _ _=>?_)) | split | dsimp only)
theorem sim_makeInterface {t : TypeId} {x : Value} : SimOk P Z (fun _=>True) (Instr.makeInterface t x):=by
 unfold Instr.makeInterface
 exact sAB021
def fieldOk (P : Program) (t : TypeId) (i : Nat) : Bool :=
 match P.underlying t with
 | some (.struct fs)=>(fs[i]?).all fun f=>(P.info? f.type).all fun x=>x.size != 0
 | _=>true
theorem sim_fieldAt {t : TypeId} {x : Value} {i : Nat} (h : fieldOk P t i = true) : SimOk P Z (fun _=>True) (Instr.fieldAt t x i):=by
 unfold Instr.fieldAt
 refine sim_bind sim_underlyingA fun D hD=>?_
 unfold fieldOk at h
 rw [hD] at h
 cases D with
 | struct fs =>
   dsimp only at h ⊢
   cases hf : fs[i]? with
   | none=>exact sim_stuck
   | some f =>
     rw [hf] at h
     simp only [Option.all_some] at h
     refine sim_bind sim_sureAddr fun a _=>?_
     refine sim_bind (A:=fun _=>True) ?_ fun _ _=>sim_pure trivial
     unfold fieldPlace
     refine sim_bind sim_sizeOfA fun n hn=>?_
     obtain ⟨info,h1,h2⟩:=hn
     rw [h1] at h
     simp only [Option.all_some,bne_iff_ne,ne_eq] at h
     rw [if_neg (by rw [← h2]; exact h)]
     exact sim_pure trivial
 | _=>exact sim_stuck
theorem sim_followBlind : ∀ {l : List FieldStep} {t : TypeId} {x : Option Value},SimOk P Z (fun _=>True) (followBlind l t x)
 | [],_,_=>sim_pure trivial
 | s :: rest,_,_=>by
   unfold followBlind
   repeat' (first | (with_reducible first|exact sim_pure trivial|exact sim_stuck|exact sim_followBlind|exact sim_underlying|exact sim_part) | (with_reducible refine sim_bind (A:=fun _=>True) ?_ (fun _ _=>?_)) | split | dsimp only)
theorem sim_nilAhead : ∀ {n : Nat} {t : TypeId} {v : Value} {s : String},SimOk P Z (fun _=>True) (nilAhead n t v s)
 | 0,_,_,_=>sim_pure trivial
 | n + 1,_,_,_=>by
   unfold nilAhead
   repeat' (first | (with_reducible first|exact sim_pure trivial|exact sim_stuck|exact sim_nilAhead|exact sim_followBlind|exact sim_underlying|exact sim_typeInfo) | (with_reducible refine sim_bind (A:=fun _=>True) ?_ (fun _ _=>?_)) | split | dsimp only)
theorem sim_len {a : Array TypeId} {t : TypeId} {args : Array Value} : SimOk P Z (fun _=>True) (Builtin.len_ a t args):=by
 unfold Builtin.len_
 exact sAB021
theorem sim_lenOf {v : Value} : SimOk P Z (fun _=>True) (Builtin.lenOf v):=by
 unfold Builtin.lenOf
 exact sAB021
theorem sim_firstCells {s n : Nat} {v : Value} : SimOk P Z (fun _=>True) (Builtin.firstCells s n v):=by
 unfold Builtin.firstCells
 exact sAB021
theorem sim_cap {a : Array TypeId} {t : TypeId} {args : Array Value} : SimOk P Z (fun _=>True) (Builtin.cap_ a t args):=by
 unfold Builtin.cap_
 exact sAB021
def mapOk (P : Program) (t : TypeId) : Bool:=match P.underlying t with | some (.map k _)=>eqTy P k | _=>false
theorem sim_checkKey_plain {e : Bool} {n : Nat} {t : TypeId} {v : Value} (ht : plainTy P t = true) : SimOk P Z (fun _=>True) (Instr.checkKey e (n + 1) t v):=by
 unfold Instr.checkKey
 refine sim_bind sim_underlyingA fun D hD=>?_
 unfold plainTy at ht
 rw [hD] at ht
 cases D <;> first | cases ht | skip
 all_goals (split <;> first | exact sim_pure trivial | exact sim_stuck | contradiction)
theorem sim_checkKey {e : Bool} {n : Nat} {t : TypeId} {v : Value} (ht : eqTy P t = true) : SimOk P Z (fun _=>True) (Instr.checkKey e (n + 2) t v):=by
 unfold eqTy at ht
 split at ht
 . rename_i fs h
   unfold Instr.checkKey
   refine sim_bind sim_underlyingA fun D hD=>?_
   rw [h] at hD
   obtain rfl:=Option.some.inj hD
   cases v
   case agg cs =>
     dsimp only
     refine sim_bind (A:=fun _=>True) ?_ fun s _=>sim_pure trivial
     rw [← Array.forIn_toList]
     refine sim_forIn fun f hfm b=>?_
     have hp:=List.all_eq_true.1 ht f hfm
     split
     . exact sim_bind sim_part fun _ _=>sim_bind (sim_checkKey_plain hp) fun _ _=>sim_pure trivial
     . exact sim_pure trivial
   all_goals exact sim_stuck
 . exact sim_checkKey_plain ht
theorem sim_findAsking {t : TypeId} {k : Value} (ht : eqTy P t = true) : ∀ {es : List MapEntry} {i : Nat},SimOk P Z (fun _=>True) (Instr.findAsking t k es i)
 | [],_=>sim_pure trivial
 | e :: es,i=>by
   unfold Instr.findAsking
   refine sim_bind (sim_equal ht) fun b _=>?_
   split
   . exact sim_pure trivial
   . exact sim_findAsking ht
theorem sim_findKey {t : TypeId} {k : Value} {es : List MapEntry} (ht : eqTy P t = true) : SimOk P Z (fun _=>True) (Instr.findKey t k es):=by
 unfold Instr.findKey
 refine sim_bind sim_underlying fun D _=>?_
 split
 . exact sim_pure trivial
 . exact sim_findAsking ht
theorem mapOk_key {t : TypeId} (h : mapOk P t = true) {k e : TypeId} (hu : P.underlying t = some (.map k e)) : eqTy P k = true:=by
 unfold mapOk at h
 rw [hu] at h
 exact h
theorem sim_makeMap {t : TypeId} : SimOk P Z (fun _=>True) (Instr.makeMap t none):=by
 unfold Instr.makeMap
 exact sim_bind (sim_newObj (by simp)) fun _ _=>sim_pure trivial
theorem sim_lookup {t : TypeId} {x k : Value} {c : Bool} (h : mapOk P t = true) : SimOk P Z (fun _=>True) (Instr.lookup t x k c):=by
 unfold Instr.lookup
 refine sim_bind sim_underlyingA fun D hD=>?_
 cases D
 case map kt et =>
   have hk:=mapOk_key h hD
   dsimp only
   repeat' (first
     | with_reducible exact sim_pure trivial
     | with_reducible exact sim_stuck
     | with_reducible exact sim_runtimePanic
     | exact sim_checkKey (n:=9998) hk
     | exact sim_findKey hk
     | with_reducible exact sim_zeroValue
     | with_reducible exact sim_keyThatStays
     | exact sim_setObj (by simp)
     | (with_reducible refine sim_getObj (fun _ _=>⟨_,rfl⟩) (fun _=>?_))
     | (with_reducible refine sim_bind (A:=fun _=>True) ?_ (fun _ _=>?_))
     | split
     | dsimp only)
 all_goals exact sim_stuck
theorem sim_keyThatStays {a b : Value} : SimOk P Z (fun _=>True) (Instr.keyThatStays a b):=by
 unfold Instr.keyThatStays
 split
 . exact sim_pure trivial
 . exact sim_choose fun _=>sim_pure trivial
theorem sim_mapUpdate {t : TypeId} {x k v : Value} (h : mapOk P t = true) : SimOk P Z (fun _=>True) (Instr.mapUpdate t x k v):=by
 unfold Instr.mapUpdate
 refine sim_bind sim_underlyingA fun D hD=>?_
 cases D
 case map kt et =>
   have hk:=mapOk_key h hD
   dsimp only
   split
   . exact sim_runtimePanic
   . refine sim_getObj (fun _ _=>⟨_,rfl⟩) fun o=>?_
     cases o
     case map es clock =>
       dsimp only
       refine sim_bind (sim_checkKey (n:=9998) hk) fun _ _=>sim_bind (sim_findKey hk) fun r _=>?_
       split
       . exact sim_bind sim_keyThatStays fun _ _=>sim_setObj (by simp)
       . exact sim_setObj (by simp)
     all_goals exact sim_stuck
   . exact sim_stuck
 all_goals exact sim_stuck
theorem sim_delete {t tt : TypeId} {as : Array TypeId} {args : Array Value} (ht : as[0]? = some t) (h : mapOk P t = true) : SimOk P Z (fun _=>True) (Builtin.delete_ as tt args):=by
 unfold Builtin.delete_
 rw [ht]
 dsimp only
 split
 . rename_i mt m k e
   obtain rfl : t = mt:=by simpa using (congrArg Prod.fst e)
   refine sim_bind sim_underlyingA fun D hD=>?_
   cases D
   case map kt et =>
     have hk:=mapOk_key h hD
     dsimp only
     repeat' (first
       | with_reducible exact sim_pure trivial
       | with_reducible exact sim_stuck
       | with_reducible exact sim_runtimePanic
       | exact sim_checkKey (n:=9998) hk
       | exact sim_findKey hk
       | with_reducible exact sim_zeroValue
       | with_reducible exact sim_keyThatStays
       | exact sim_setObj (by simp)
       | (with_reducible refine sim_getObj (fun _ _=>⟨_,rfl⟩) (fun _=>?_))
       | (with_reducible refine sim_bind (A:=fun _=>True) ?_ (fun _ _=>?_))
       | split
       | dsimp only)
   all_goals exact sim_stuck
 . exact sim_stuck
theorem sim_range {t : TypeId} {x : Value} : SimOk P Z (fun _=>True) (Instr.range t x):=by
 unfold Instr.range
 refine sim_bind sim_underlying fun _ _=>?_
 repeat' (first
   | exact sim_pure (A:=fun (it : Obj)=>∀ a u,it ≠ Obj.view a u) (by simp)
   | with_reducible exact sim_pure trivial
   | with_reducible exact sim_stuck
   | exact sim_newObj (by assumption)
   | (with_reducible refine sim_getObj (fun _ _=>⟨_,rfl⟩) (fun _=>?_))
   | (with_reducible refine sim_bind (A:=fun (it : Obj)=>∀ a u,it ≠ Obj.view a u) ?_ (fun _ _=>?_))
   | (with_reducible refine sim_bind (A:=fun _=>True) ?_ (fun _ _=>?_))
   | split
   | dsimp only)
theorem sim_next {x : Value} {b : Bool} {t : TypeId} : SimOk P Z (fun _=>True) (Instr.next x b t):=by
 unfold Instr.next
 repeat' (first
   | with_reducible exact sim_pure trivial
   | with_reducible exact sim_stuck
   | exact sim_unsupported (by simp)
   | exact sim_setObj (by simp)
   | (with_reducible refine sim_getObj (fun _ _=>⟨_,rfl⟩) (fun _=>?_))
   | (with_reducible refine sim_choose (fun _=>?_))
   | (with_reducible refine sim_bind (A:=fun _=>True) ?_ (fun _ _=>?_))
   | split
   | dsimp only)
theorem sim_entry {x : Value} : SimOk P Z (fun _=>True) (Instr.entry x):=by
 unfold Instr.entry
 repeat' (first
   | with_reducible exact sim_pure trivial
   | with_reducible exact sim_stuck
   | exact sim_unsupported (by simp)
   | (with_reducible refine sim_getObj (fun _ _=>⟨_,rfl⟩) (fun _=>?_))
   | (with_reducible refine sim_bind (A:=fun _=>True) ?_ (fun _ _=>?_))
   | split
   | dsimp only)
end
end Go.Proofs.Ytibcdikfbhmheaa
