import Derived.Test.YtibcdikfbhmheaaB06
import Derived.Conc.MarkLaws
import Derived.Maps.AppendAt
set_option linter.unusedSimpArgs false
set_option linter.unusedVariables false
set_option maxRecDepth 100000
set_option maxHeartbeats 4000000
namespace Go.Proofs.Ytibcdikfbhmheaa
open Go Go.Conc
open Go.ConcN (sumTo upd sumTo_upd upd_ne upd_same)
def MuV (P : Program) (L : List FuncId) (V : World) (K : Goroutine -> Prop) : Prop :=
 ∀ (b : Frame) (a : Act) (k : List Item) (cs : List Frame) (ops : Array Oper) (i : Nat) (rest : List Nat) (o : Oper) (v : Value),b.kind = .normal ∨ b.kind = .deferred -> ops[i]? = some o -> Region.wanted o (yielded ops a.tmps) = true -> opOk P L o.op = true ->
   (∀ τ,(execOp a.eval o).run P (re V τ 0) = .ok (.value v) (re V τ 0)) -> K (G (b.at (a.put o.dst v) (.inRegion ops rest :: k)) cs) -> K (G (b.at a (.inRegion ops (i :: rest) :: k)) cs)
def MuS (P : Program) (L : List FuncId) (V V' : World) (K K' : Goroutine -> Prop) : Prop :=
 ∀ (b : Frame) (a : Act) (k : List Item) (cs : List Frame) (ops : Array Oper) (i : Nat) (rest : List Nat) (o : Oper),b.kind = .normal ∨ b.kind = .deferred -> ops[i]? = some o -> Region.wanted o (yielded ops a.tmps) = true -> opOk P L o.op = true ->
   (∀ τ,(execOp a.eval o).run P (re V τ 0) = .ok .skip (re V' τ 0)) -> K' (G (b.at (a.put o.dst undef) (.inRegion ops rest :: k)) cs) -> K (G (b.at a (.inRegion ops (i :: rest) :: k)) cs)
section
variable {P : Program} {L : List FuncId} {V V' : World} {K K' : Goroutine -> Prop} {b : Frame} {a : Act} {k : List Item} {cs : List Frame}
theorem muv_val (hV : MuV P L V K) {ops : Array Oper} {i : Nat} {rest : List Nat} {o : Oper} (ho : ops[i]? = some o) (hb : b.kind = .normal ∨ b.kind = .deferred) (hw : Region.wanted o (yielded ops a.tmps) = true) (hok : opOk P L o.op = true)
   (h : ∀ J : ((Nat -> Question -> Nat) -> Result Next) -> Prop,(∀ v,K (G (b.at (a.put o.dst v) (.inRegion ops rest :: k)) cs) -> J (fun τ=>.ok (.value v) (re V τ 0))) -> J (fun τ=>(execOp a.eval o).run P (re V τ 0))) :
   K (G (b.at a (.inRegion ops (i :: rest) :: k)) cs) :=
 h (fun f=>(∀ τ,(execOp a.eval o).run P (re V τ 0) = f τ) -> K (G (b.at a (.inRegion ops (i :: rest) :: k)) cs)) (fun v hv hrun=>hV b a k cs ops i rest o v hb ho hw hok hrun hv) (fun _=>rfl)
theorem mus_put (hV : MuS P L V V' K K') {ops : Array Oper} {i : Nat} {rest : List Nat} {o : Oper} (ho : ops[i]? = some o) (hb : b.kind = .normal ∨ b.kind = .deferred) (hw : Region.wanted o (yielded ops a.tmps) = true) (hok : opOk P L o.op = true)
   (hr : ∀ τ,(execOp a.eval o).run P (re V τ 0) = .ok .skip (re V' τ 0)) (h : K' (G (b.at (a.put o.dst undef) (.inRegion ops rest :: k)) cs)) : K (G (b.at a (.inRegion ops (i :: rest) :: k)) cs):=hV b a k cs ops i rest o hb ho hw hok hr h
theorem re_cell (V : World) (τ : Nat -> Question -> Nat) (d : Nat) (x : Addr) : (re V τ d).cell? x = V.cell? x:=rfl
theorem apply_valueD {P : Program} {b : Frame} {cs : List Frame} {w w' : World} {s : Sem Next} {v : Value} {es : Array Event} (hk : b.kind ≠ .early) (h : s.runT P w #[] = (.ok (.value v) w',es)) : stepG.apply P true b cs none s w = .go (G (b.finish v) cs) w' (seen P b.fn es):=by
 have hk' : (b.kind == CallKind.early) = false:=by simpa using hk
 have h1 : s.run P w = .ok (.value v) w':=by rw [← Sem.runT_fst P s w #[],h]
 have h2 : s.events P w #[] = es:=by unfold Sem.events; rw [h]
 simp [stepG.apply,h1,G,hk',GStep.after,h2]
theorem apply_skipD {P : Program} {b : Frame} {cs : List Frame} {w w' : World} {s : Sem Next} {es : Array Event} (hk : b.kind ≠ .early) (h : s.runT P w #[] = (.ok .skip w',es)) : stepG.apply P true b cs none s w = .go (G (b.finish undef) cs) w' (seen P b.fn es):=by
 have hk' : (b.kind == CallKind.early) = false:=by simpa using hk
 have h1 : s.run P w = .ok .skip w':=by rw [← Sem.runT_fst P s w #[],h]
 have h2 : s.events P w #[] = es:=by unfold Sem.events; rw [h]
 simp [stepG.apply,h1,G,hk',GStep.after,h2]
theorem one_step {main : Bool} {Z : Cuts} (hb : b.kind = .normal ∨ b.kind = .deferred) {ops : Array Oper} {i : Nat} {rest : List Nat} {o : Oper} {x : Next} {v : Value} (ho : ops[i]? = some o) (hw : Region.wanted o (yielded ops a.tmps) = true) (hok : opOk P L o.op = true) (hx : (x = .value v) ∨ (x = .skip /\ v = undef))
   (hn' : norm V' = V') (hr : ∀ τ,(execOp a.eval o).run P (re V τ 0) = .ok x (re V' τ 0)) (w : World) (hV : pz Z w = V) (hf : Fit P Z w) :
   ∃ w' es,stepG P main (G (b.at a (.inRegion ops (i :: rest) :: k)) cs) w = .go (G (b.at (a.put o.dst v) (.inRegion ops rest :: k)) cs) w' es /\ Hidden Z w w' /\ Fit P Z w' /\ (∀ e ∈ es,EvZ Z w'.heap.size e) /\ pz Z w' = V':=by
 subst hV
 have hsim:=sim_execOp (Z:=Z) (o:=o) (ρ:=Act.eval a) (fun _=>rfl) (fun _=>rfl) hok (re (pz Z w) (glue (fun _ _=>0) 0 w) 0) w #[] rfl hf
 rw [hr] at hsim
 obtain ⟨hnx,hd,ht,hgo⟩:=hsim
 obtain ⟨w',es',e,o'⟩:=hgo glue_ag
 have hst : stepG P main (G (b.at a (.inRegion ops (i :: rest) :: k)) cs) w = stepG.apply P true (b.at a (.inRegion ops (i :: rest) :: k)) cs none (execOp a.eval o) w:=stepG_oper ho hw
 have hk : (b.at a (.inRegion ops (i :: rest) :: k)).kind ≠ .early:=by
   show b.kind ≠ .early
   rcases hb with h | h <;> rw [h] <;> decide
 have evs : ∀ e ∈ seen P b.fn es',EvZ Z w'.heap.size e:=fun e he=>by
   obtain ⟨u,hu,hu'⟩:=o'.evs
   have:=mem_seen he
   rw [hu] at this
   exact hu' e (by simpa using this)
 have hv' : pz Z w' = V':=by rw [← o'.rl]; exact hn'
 refine ⟨w',seen P b.fn es',?_,o'.hid,o'.fit,evs,hv'⟩
 rw [hst]
 rcases hx with rfl | ⟨rfl,rfl⟩
 . rw [apply_valueD hk e,Frame.finish_at,ho]; rfl
 . rw [apply_skipD hk e,Frame.finish_at,ho]; rfl
theorem muv_will {main : Bool} {Z : Cuts} {Stop : Goroutine -> World -> Prop} (hn : norm V = V) : MuV P L V (fun g=>Will P main Z Stop g V):=fun b a k cs ops i rest o v hb ho hw hok hr h=>by
 refine .step rfl (fun w hV hf=>?_) fun w g' w' es hV hf hst=>?_
 . obtain ⟨w',es,e,h1,h2,h3,_⟩:=one_step (main:=main) hb ho hw hok (.inl rfl) hn hr w hV hf
   exact ⟨_,w',es,e,h1,h2,h3⟩
 . obtain ⟨w',es,e,h1,h2,h3,h4⟩:=one_step (main:=main) hb ho hw hok (.inl rfl) hn hr w hV hf
   rw [e] at hst
   injection hst with e1 e2 e3
   subst e1 e2
   rw [h4]; exact h
theorem mus_will {main : Bool} {Z : Cuts} {Stop : Goroutine -> World -> Prop} (hn' : norm V' = V') : MuS P L V V' (fun g=>Will P main Z Stop g V) (fun g=>Will P main Z Stop g V'):=fun b a k cs ops i rest o hb ho hw hok hr h=>by
 refine .step rfl (fun w hV hf=>?_) fun w g' w' es hV hf hst=>?_
 . obtain ⟨w',es,e,h1,h2,h3,_⟩:=one_step (main:=main) hb ho hw hok (.inr ⟨rfl,rfl⟩) hn' hr w hV hf
   exact ⟨_,w',es,e,h1,h2,h3⟩
 . obtain ⟨w',es,e,h1,h2,h3,h4⟩:=one_step (main:=main) hb ho hw hok (.inr ⟨rfl,rfl⟩) hn' hr w hV hf
   rw [e] at hst
   injection hst with e1 e2 e3
   subst e1 e2
   rw [h4]; exact h
theorem muv_to {Post : Value -> World -> Prop} {E : Env} {Lst : Nat -> Nat -> Goroutine -> Prop} {h dh pend n : Nat} {role : Nat -> Role} (hE : EnvOk E) (hn : norm V = V) : MuV P L V (fun g=>To P Post E Lst h dh pend n role V g) :=
 fun b a k cs ops i rest o v hb ho hw hok hr hh=>To.walk hE (muv_will (main:=h == 0) hn b a k cs ops i rest o v hb ho hw hok hr (Will.stop hh))
theorem mus_to {Post : Value -> World -> Prop} {E : Env} {Lst : Nat -> Nat -> Goroutine -> Prop} {h dh pend n : Nat} {role : Nat -> Role} (hE : EnvOk E) (hn' : norm V' = V') : MuS P L V V' (fun g=>To P Post E Lst h dh pend n role V g) (fun g=>To P Post E Lst h dh pend n role V' g) :=
 fun b a k cs ops i rest o hb ho hw hok hr hh=>To.walk hE (mus_will (main:=h == 0) hn' b a k cs ops i rest o hb ho hw hok hr (Will.stop hh))
theorem muv_to0 {Post : Value -> World -> Prop} {Z : Cuts} (hn : norm V = V) : MuV P L V (fun g=>To0 P Post Z V g) :=
 fun b a k cs ops i rest o v hb ho hw hok hr hh=>To0.walk (muv_will (main:=true) hn b a k cs ops i rest o v hb ho hw hok hr (Will.stop hh))
theorem mus_to0 {Post : Value -> World -> Prop} {Z : Cuts} (hn' : norm V' = V') : MuS P L V V' (fun g=>To0 P Post Z V g) (fun g=>To0 P Post Z V' g) :=
 fun b a k cs ops i rest o hb ho hw hok hr hh=>To0.walk (mus_will (main:=true) hn' b a k cs ops i rest o hb ho hw hok hr (Will.stop hh))
theorem mu_to0 {Post : Value -> World -> Prop} {Z : Cuts} : Mu P (fun _=>True) (fun g=>To0 P Post Z V g):=fun g g' hr hs h=>To0.walk (Will.still hr (fun w=>hs true w trivial) (Will.stop h))
def MuA (P : Program) (L : List FuncId) (V V' : World) (K K' : Goroutine -> Prop) : Prop :=
 ∀ (b : Frame) (a : Act) (k : List Item) (cs : List Frame) (ops : Array Oper) (i : Nat) (rest : List Nat) (o : Oper) (v : Value),b.kind = .normal ∨ b.kind = .deferred -> ops[i]? = some o -> Region.wanted o (yielded ops a.tmps) = true -> opOk P L o.op = true ->
   (∀ τ,(execOp a.eval o).run P (re V τ 0) = .ok (.value v) (re V' τ 0)) -> K' (G (b.at (a.put o.dst v) (.inRegion ops rest :: k)) cs) -> K (G (b.at a (.inRegion ops (i :: rest) :: k)) cs)
theorem mua_will {main : Bool} {Z : Cuts} {Stop : Goroutine -> World -> Prop} (hn' : norm V' = V') : MuA P L V V' (fun g=>Will P main Z Stop g V) (fun g=>Will P main Z Stop g V'):=fun b a k cs ops i rest o v hb ho hw hok hr h=>by
 refine .step rfl (fun w hV hf=>?_) fun w g' w' es hV hf hst=>?_
 . obtain ⟨w',es,e,h1,h2,h3,_⟩:=one_step (main:=main) hb ho hw hok (.inl rfl) hn' hr w hV hf
   exact ⟨_,w',es,e,h1,h2,h3⟩
 . obtain ⟨w',es,e,h1,h2,h3,h4⟩:=one_step (main:=main) hb ho hw hok (.inl rfl) hn' hr w hV hf
   rw [e] at hst
   injection hst with e1 e2 e3
   subst e1 e2
   rw [h4]; exact h
theorem mua_to {Post : Value -> World -> Prop} {E : Env} {Lst : Nat -> Nat -> Goroutine -> Prop} {h dh pend n : Nat} {role : Nat -> Role} (hE : EnvOk E) (hn' : norm V' = V') : MuA P L V V' (fun g=>To P Post E Lst h dh pend n role V g) (fun g=>To P Post E Lst h dh pend n role V' g) :=
 fun b a k cs ops i rest o v hb ho hw hok hr hh=>To.walk hE (mua_will (main:=h == 0) hn' b a k cs ops i rest o v hb ho hw hok hr (Will.stop hh))
theorem mua_to0 {Post : Value -> World -> Prop} {Z : Cuts} (hn' : norm V' = V') : MuA P L V V' (fun g=>To0 P Post Z V g) (fun g=>To0 P Post Z V' g) :=
 fun b a k cs ops i rest o v hb ho hw hok hr hh=>To0.walk (mua_will (main:=true) hn' b a k cs ops i rest o v hb ho hw hok hr (Will.stop hh))
theorem mua_put {K K' : Goroutine -> Prop} (hV : MuA P L V V' K K') {ops : Array Oper} {i : Nat} {rest : List Nat} {o : Oper} {v : Value} (ho : ops[i]? = some o) (hb : b.kind = .normal ∨ b.kind = .deferred) (hw : Region.wanted o (yielded ops a.tmps) = true) (hok : opOk P L o.op = true)
   (hr : ∀ τ,(execOp a.eval o).run P (re V τ 0) = .ok (.value v) (re V' τ 0)) (h : K' (G (b.at (a.put o.dst v) (.inRegion ops rest :: k)) cs)) : K (G (b.at a (.inRegion ops (i :: rest) :: k)) cs):=hV b a k cs ops i rest o v hb ho hw hok hr h
theorem mu_deferV {R : World -> Prop} (hK : Mu P R K) {ops : Array Oper} {i : Nat} {rest : List Nat} {o : Oper} {d : Deferred} (ho : ops[i]? = some o) (hw : Region.wanted o (yielded ops a.tmps) = true) (hk : b.kind ≠ .early) (hr : ∀ w,(execOp a.eval o).run P w = .ok (.defer d) w) (he : ∀ w,(execOp a.eval o).events P w #[] = #[])
   (h : K (G (b.at (Act.put ⟨a.tmps,d :: a.defers⟩ o.dst undef) (.inRegion ops rest :: k)) cs)) : K (G (b.at a (.inRegion ops (i :: rest) :: k)) cs):=mu_step hK rfl (fun main w=>by
 have hk' : (b.kind == CallKind.early) = false:=by simpa using hk
 have hfin : ({ b.at a (.inRegion ops (i :: rest) :: k) with defers:=d :: a.defers } : Frame).finish undef = b.at (Act.put ⟨a.tmps,d :: a.defers⟩ o.dst undef) (.inRegion ops rest :: k):=by
   have:=Frame.finish_at b ⟨a.tmps,d :: a.defers⟩ ops i rest k undef
   rw [ho] at this
   exact this
 rw [stepG_oper ho hw,← hfin]
 simp [stepG.apply,hr w,he w,G,Frame.at,hk',GStep.after,seen_none]) h
theorem mu_enterV {R : World -> Prop} (hK : Mu P R K) {ops : Array Oper} {i : Nat} {rest : List Nat} {o : Oper} {f : FuncId} {args : Array Value} (ho : ops[i]? = some o) (hw : Region.wanted o (yielded ops a.tmps) = true) (hk : b.kind ≠ .early) (hr : ∀ w,(execOp a.eval o).run P w = .ok (.enter f args) w) (he : ∀ w,(execOp a.eval o).events P w #[] = #[])
   (h : K (G (Frame.enter P f args .normal) (b.at a (.inRegion ops (i :: rest) :: k) :: cs))) : K (G (b.at a (.inRegion ops (i :: rest) :: k)) cs):=mu_step hK rfl (fun main w=>by
 rw [stepG_enter ho hw hk (hr w),listed_no (he w)]) h
def MuD (P : Program) (K : Goroutine -> Prop) : Prop:=∀ (b : Frame) (a : Act) (k : List Item) (cs : List Frame) (id : Nat) (ops : Array Oper),(∀ t,K (G (b.at a (.inRegion ops (Region.schedule (P.follows .mixedOrders) ops t) :: k)) cs)) -> K (G (b.at a (.code (.region id ops true) :: k)) cs)
theorem MuV.vl {P : Program} {L : List FuncId} {V : World} {K : Goroutine -> Prop} {b : Frame} {a : Act} {k : List Item} {cs : List Frame} (hV : MuV P L V K) {ops : Array Oper} {i : Nat} {rest : List Nat} {o : Oper} (ho : ops[i]? = some o) (hw : Region.wanted o (yielded ops a.tmps) = true)
   (h : ∀ J : ((Nat -> Question -> Nat) -> Result Next) -> Prop,(∀ v,K (G (b.at (a.put o.dst v) (.inRegion ops rest :: k)) cs) -> J (fun τ=>.ok (.value v) (re V τ 0))) -> J (fun τ=>(execOp a.eval o).run P (re V τ 0))) (hb : b.kind = .normal ∨ b.kind = .deferred:=by first | exact .inl rfl | exact .inr rfl) (hok : opOk P L o.op = true:=by kernel_rfl) :
   K (G (b.at a (.inRegion ops (i :: rest) :: k)) cs):=muv_val hV ho hb hw hok h
theorem wS {A B : Prop} (h : B) (w : Hd B -> A:=by
 intro h
 simp only [List.size_toArray,List.length_cons,List.length_nil,Nat.reduceAdd,Nat.zero_add,Array.replicate_succ,Array.replicate_zero,List.push_toArray,List.nil_append,List.cons_append]
 exact h.h) : A:=w ⟨h⟩
theorem kKV {P : Program} {R : World -> Prop} {J : Goroutine -> Prop} {L : List FuncId} {V : World} (x : Mu P R J) (y : MuV P L V J) : ∃ K,Mu P R K /\ MuV P L V K /\ (∀ g,K g -> J g) /\ (∀ g,J g -> K g):=⟨J,x,y,fun _ h=>h,fun _ h=>h⟩
theorem wA {A : Prop} {k0 : List Item} {B : List Item -> Prop} (h : ∀ kk,kk = k0 -> B kk) (w : Hd (∀ kk,kk = k0 -> B kk) -> A:=by
 intro h
 repeat (first|(with_reducible first|apply hK.sq|apply hK.sk|(apply hK.re;try rw [hkk])|apply hK.bl|apply hK.ib|apply hK.rt|apply hK.nd)|refine hK.ex rfl ?_|(with_reducible refine hK.rg fun kk hkk=>?_;simp only [ix,Nat.reduceAdd])|(with_reducible first|refine hK.cf ?_|refine hK.ct ?_)|(refine hK.uw rfl rfl ?_;walk_nrm)|(refine hV.vl rfl rfl fun J hJ=>?_;go_simp;with_reducible refine hJ _ ?_;clear hJ J;walk_nrm))
 first | exact h.h kk hkk | (obtain ⟨k2,e⟩ : ∃ x,x = kk:=⟨_,rfl⟩;rw [← e];exact h.h k2 (e.trans hkk)) | (obtain ⟨kk,hkk⟩ : ∃ kk : List Item,kk = []:=⟨_,rfl⟩;exact h.h kk hkk)) : A:=w ⟨h⟩
theorem wB {J : Goroutine -> Prop} {P : Program} {R : World -> Prop} {L : List FuncId} {V : World} (hJ : Mu P R J) (hV : MuV P L V J) {g : Goroutine} {k0 : List Item} {B : (Goroutine -> Prop) -> List Item -> Prop} (h : ∀ kk,kk = k0 -> B J kk) (w : ∀ K,Mu P R K -> MuV P L V K -> Hd (∀ kk,kk = k0 -> B K kk) -> K g:=by
 intro K hK hV h
 repeat (first|(with_reducible first|apply hK.sq|apply hK.sk|(apply hK.re;try rw [hkk])|apply hK.bl|apply hK.ib|apply hK.rt|apply hK.nd)|refine hK.ex rfl ?_|(with_reducible refine hK.rg fun kk hkk=>?_;simp only [ix,Nat.reduceAdd])|(with_reducible first|refine hK.cf ?_|refine hK.ct ?_)|(refine hK.uw rfl rfl ?_;walk_nrm)|(refine hV.vl rfl rfl fun J hJ=>?_;go_simp;with_reducible refine hJ _ ?_;clear hJ J;walk_nrm))
 first | exact h.h kk hkk | (obtain ⟨k2,e⟩ : ∃ x,x = kk:=⟨_,rfl⟩;rw [← e];exact h.h k2 (e.trans hkk)) | (obtain ⟨kk,hkk⟩ : ∃ kk : List Item,kk = []:=⟨_,rfl⟩;exact h.h kk hkk)) : J g:=w J hJ hV ⟨h⟩
theorem kKVD {P : Program} {R : World -> Prop} {J : Goroutine -> Prop} {L : List FuncId} {V : World} (x : Mu P R J) (y : MuV P L V J) (z : MuD P J) : ∃ K,Mu P R K /\ MuV P L V K /\ MuD P K /\ (∀ g,K g -> J g) /\ (∀ g,J g -> K g):=⟨J,x,y,z,fun _ h=>h,fun _ h=>h⟩
theorem kKD {P : Program} {R : World -> Prop} {J : Goroutine -> Prop} (x : Mu P R J) (z : MuD P J) : ∃ K,Mu P R K /\ MuD P K /\ (∀ g,K g -> J g) /\ (∀ g,J g -> K g):=⟨J,x,z,fun _ h=>h,fun _ h=>h⟩
theorem stepG_region_draw' {main : Bool} {w : World} {id : Nat} {ops : Array Oper} : stepG P main (G (b.at a (.code (.region id ops true) :: k)) cs) w = .go (G (b.at a (.inRegion ops (Region.schedule (P.follows .mixedOrders) ops (w.tape w.drawn (.order b.fn id))) :: k)) cs) { w with drawn:=w.drawn + 1 }:=by
 simp [G,stepG,stepG.exec,Frame.at,choose,Sem.run,Question.forced,Question.cut]
theorem mud_will {main : Bool} {Z : Cuts} {Stop : Goroutine -> World -> Prop} : MuD P (fun g=>Will P main Z Stop g V):=fun b a k cs id ops h=>by
 refine .step rfl (fun w hV hf=>⟨_,_,#[],stepG_region_draw',⟨fun _ _ _ _ h _=>h,fun _ _ _ _ c _ _ _ h=>⟨c,h,rfl,fun _ _=>rfl⟩,Nat.le_refl _,rfl,fun _ _ _ h=>h,rfl,rfl⟩,⟨hf.cut,hf.rows,hf.chans,hf.glob,hf.bad⟩,by simp⟩) fun w g' w' es hV hf hst=>?_
 rw [stepG_region_draw'] at hst
 injection hst with e1 e2 e3
 subst e1 e2
 show Will _ _ _ _ _ (pz Z w)
 rw [hV]
 exact h _
theorem mud_to {Post : Value -> World -> Prop} {E : Env} {Lst : Nat -> Nat -> Goroutine -> Prop} {h dh pend n : Nat} {role : Nat -> Role} (hE : EnvOk E) : MuD P (fun g=>To P Post E Lst h dh pend n role V g) :=
 fun b a k cs id ops hh=>To.walk hE (mud_will (main:=h == 0) b a k cs id ops fun t=>Will.stop (hh t))
theorem anyP_K {R : World -> Prop} {md : Region.Mode} {ops : Array Oper} {j : Nat} (hK : Mu P R K) (hV : MuV P L V K) (hb : b.kind = .normal ∨ b.kind = .deferred) : ∀ (n t : Nat) (listed : Array Bool) (a : Act),
   AnyP P L md ops V j (fun n listed a=>∀ t,K (G (b.at a (.inRegion ops (j :: Region.linearise.go md ops n t listed []) :: k)) cs)) (fun a=>K (G (b.at a k) cs)) n listed a ->
     K (G (b.at a (.inRegion ops (Region.linearise.go md ops n t listed []) :: k)) cs):=by
 intro n
 induction n with
 | zero=>intro t listed a h; simp only [Region.linearise.go,List.reverse_nil]; exact mu_region_end hK h.2
 | succ n ih =>
   intro t listed a h
   obtain ⟨h₀,h₁⟩:=h
   simp only [Region.linearise.go]
   change K (G (b.at a (.inRegion ops (match (Region.ready md ops listed)[t % (Region.ready md ops listed).length]? with
     | some i=>Region.linearise.go md ops n (t / (Region.ready md ops listed).length) (listed.setIfInBounds i true) [i]
     | none=>[].reverse) :: k)) cs)
   cases hi : (Region.ready md ops listed)[t % (Region.ready md ops listed).length]? with
   | none =>
     have hnil : Region.ready md ops listed = []:=by
       cases hr : Region.ready md ops listed with
       | nil=>rfl
       | cons x xs =>
         rw [hr] at hi
         have hlt : t % (x :: xs).length < (x :: xs).length:=Nat.mod_lt _ (by simp)
         simp at hi
         simp at hlt
         omega
     simp only [List.reverse_nil]
     exact mu_region_end hK (h₀ hnil)
   | some i =>
     simp only []
     rw [linearise_go_acc,List.reverse_singleton,List.singleton_append]
     obtain ⟨g1,g2⟩:=h₁ i (List.mem_of_getElem? hi)
     by_cases e : i = j
     . subst e; exact g1 rfl _
     . obtain ⟨o,v,ho,hy,H⟩:=g2 e
       rcases hy with ⟨hw,hok,hrun⟩ | ⟨hw,rfl⟩
       . exact hV b a k cs ops i _ o v hb ho hw hok hrun (ih _ _ _ H)
       . exact mu_unwanted hK ho hw (ih _ _ _ H)
theorem mu_draw {R : World -> Prop} {ops : Array Oper} {id : Nat} (j : Nat) (hK : Mu P R K) (hV : MuV P L V K) (hD : MuD P K) (hb : b.kind = .normal ∨ b.kind = .deferred) (hd : Region.departs ops = false)
   (h : AnyP P L .any ops V j (fun n listed a=>∀ t,K (G (b.at a (.inRegion ops (j :: Region.linearise.go .any ops n t listed []) :: k)) cs)) (fun a=>K (G (b.at a k) cs)) ops.size (Array.replicate ops.size false) a) :
   K (G (b.at a (.code (.region id ops true) :: k)) cs):=by
 refine hD b a k cs id ops fun t=>?_
 unfold Region.schedule
 rw [hd]
 simp only [Bool.not_false,Bool.or_true,if_true]
 exact anyP_K hK hV hb _ _ _ _ h
theorem anyP_J {md : Region.Mode} {ops : Array Oper} {j : Nat} {X : Nat -> Array Bool -> Act -> Prop} {Q : Act -> Prop} {i : Nat} {oi : Oper} {n : Nat} {listed : Array Bool} {a : Act} (rn : Nat) (hi : ops[i]? = some oi) (hs : Region.noSelect ops = true) (hij : (i != j) = true) (hrj : reach md ops i rn j = true) (hc : clB md ops listed = true) (hf : Region.free md ops (listed.setIfInBounds j true) i = true)
   (hr : (Region.ready md ops listed).contains i = true) (hw : Region.wanted oi (yielded ops a.tmps) = true) (hok : opOk P L oi.op = true)
   (h : ∀ J : ((Nat -> Question -> Nat) -> Result Next) -> Prop,(∀ v,AnyP P L md ops V j X Q n (listed.setIfInBounds i true) (a.put oi.dst v) -> J (fun τ=>.ok (.value v) (re V τ 0))) -> J (fun τ=>(execOp a.eval oi).run P (re V τ 0))) : AnyP P L md ops V j X Q (n + 1) listed a :=
 h (fun f=>(∀ τ,(execOp a.eval oi).run P (re V τ 0) = f τ) -> AnyP P L md ops V j X Q (n + 1) listed a) (fun v hv hrun=>anyP_take rn hi hs hij hrj hc hf hr (.inl ⟨hw,hok,hrun⟩) hv) (fun _=>rfl)
theorem anyQ {P : Program} {L : List FuncId} {V : World} {md : Region.Mode} {ops : Array Oper} {j : Nat} {X : Nat -> Array Bool -> Act -> Prop} {Q : Act -> Prop} (i rn : Nat) {oi : Oper} {n : Nat} {listed : Array Bool} {a : Act} {B : Prop} (hi : ops[i]? = some oi) (h : B)
 (hs : Region.noSelect ops = true:=by kernel_rfl) (hij : (i != j) = true:=by rfl) (hrj : reach md ops i rn j = true:=by kernel_rfl) (hc : clB md ops listed = true:=by kernel_rfl) (hf : Region.free md ops (listed.setIfInBounds j true) i = true:=by kernel_rfl) (hr : (Region.ready md ops listed).contains i = true:=by kernel_rfl) (hw : Region.wanted oi (yielded ops a.tmps) = true:=by rfl) (hok : opOk P L oi.op = true:=by kernel_rfl)
 (w : Hd B -> ∀ J : ((Nat -> Question -> Nat) -> Result Next) -> Prop,(∀ v,AnyP P L md ops V j X Q n (listed.setIfInBounds i true) (a.put oi.dst v) -> J (fun τ=>.ok (.value v) (re V τ 0))) -> J (fun τ=>(execOp a.eval oi).run P (re V τ 0)):=by
   intro h JJ hJJ
   go_simp
   with_reducible refine hJJ _ ?_
   clear hJJ JJ
   walk_nrm
   exact h.h) : AnyP P L md ops V j X Q (n + 1) listed a:=anyP_J rn hi hs hij hrj hc hf hr hw hok (w ⟨h⟩)
theorem stepG_comm_op {main : Bool} {w : World} {ops : Array Oper} {i : Nat} {rest : List Nat} {o : Oper} {cases : Array CommCase} {blocking : Bool} {shape : CommShape} (ho : ops[i]? = some o) (hw : Region.wanted o (yielded ops a.tmps) = true) (hk : b.kind ≠ .early)
   (hr : (execOp a.eval o).run P w = .ok (.comm cases blocking shape) w) (he : (execOp a.eval o).events P w #[] = #[]) : stepG P main (G (b.at a (.inRegion ops (i :: rest) :: k)) cs) w = .comm (G (b.at a (.inRegion ops (i :: rest) :: k)) cs) cases blocking shape w #[]:=by
 have hk' : (b.kind == CallKind.early) = false:=by simpa using hk
 rw [stepG_oper ho hw]
 simp [stepG.apply,hr,he,G,Frame.at,hk',GStep.after,seen_none]
theorem stepG_send_op {main : Bool} {w : World} {ops : Array Oper} {i : Nat} {rest : List Nat} {o : Oper} {x y : Operand} {c : Nat} {v : Value} (ho : ops[i]? = some o) (hw : Region.wanted o (yielded ops a.tmps) = true) (hk : b.kind ≠ .early) (hop : o.op = .send x y) (hx : a.eval x = .chan (some c)) (hy : a.eval y = v) :
   stepG P main (G (b.at a (.inRegion ops (i :: rest) :: k)) cs) w = .comm (G (b.at a (.inRegion ops (i :: rest) :: k)) cs) #[scase c v (.tuple #[])] true .send w #[] :=
 stepG_comm_op ho hw hk (by unfold execOp; simp [hop,hx,hy,scase]) (by unfold execOp; simp [hop])
def WayQ (P : Program) (main : Bool) (E : Env) (c : Nat) (z : Value) (Q : Goroutine -> Prop) (g : Goroutine) : Prop:=∃ r,Q r /\ ∃ n,Way P main E c z r n g
section
variable {E : Env} {main : Bool} {c : Nat} {z : Value} {Q : Goroutine -> Prop} {ops : Array Oper} {i : Nat} {rest : List Nat} {o : Oper}
theorem mu_wayQ : Mu P (KW P E) (WayQ P main E c z Q):=fun g g' hr hs ⟨r,hQ,n,h⟩=>⟨r,hQ,n + 1,.step #[] hr (by simp) (fun w hw=>hs _ w hw) h⟩
theorem way_load {ad : Addr} {v : Value} (hkc : E.Kc ad = some v) (ho : ops[i]? = some o) (hw : Region.wanted o (yielded ops a.tmps) = true) (hk : b.kind ≠ .early)
   (hr : ∀ w,w.cell? ad = some v -> (execOp a.eval o).run P w = .ok (.value v) w /\ listed P b.fn a o w = #[⟨.cell ad,false,false⟩]) (h : WayQ P main E c z Q (G (b.at (a.put o.dst v) (.inRegion ops rest :: k)) cs)) : WayQ P main E c z Q (G (b.at a (.inRegion ops (i :: rest) :: k)) cs) :=
 let ⟨r,hQ,n,h⟩:=h; ⟨r,hQ,n + 1,.step #[⟨.cell ad,false,false⟩] rfl (fun e he=>by
   simp only [List.mem_toArray,List.mem_cons,List.not_mem_nil,or_false] at he
   subst he
   exact ⟨ad,rfl,by rw [hkc]; rfl⟩) (fun w hK=>by rw [stepG_value ho hw hk (hr w (hK.2 ad v hkc)).1,(hr w (hK.2 ad v hkc)).2]) h⟩
theorem wayQ_recv (ho : ops[i]? = some o) (hw : Region.wanted o (yielded ops a.tmps) = true) (hk : b.kind ≠ .early) (hr : ∀ w,(execOp a.eval o).run P w = .ok (.comm #[rcase c z] true (.recv false)) w) (he : ∀ w,(execOp a.eval o).events P w #[] = #[])
   (hQ : Q (G (b.at a (.inRegion ops (i :: rest) :: k)) cs)) : WayQ P main E c z Q (G (b.at a (.inRegion ops (i :: rest) :: k)) cs) :=
 ⟨_,hQ,1,.here ⟨rfl,#[],by simp,fun w _=>stepG_comm_op ho hw hk (hr w) (he w)⟩⟩
theorem served_at {b : Frame} {a : Act} {ops : Array Oper} {i : Nat} {rest : List Nat} {k : List Item} {cs : List Frame} {v : Value} : Go.Conc.served (G (b.at a (.inRegion ops (i :: rest) :: k)) cs) v = G (b.at (a.put ((ops[i]?).bind (·.dst)) v) (.inRegion ops rest :: k)) cs:=by
 rw [← Frame.finish_at]; rfl
variable {Post : Value -> World -> Prop} {Lst : Nat -> Nat -> Goroutine -> Prop} {h pend n : Nat} {role : Nat -> Role} {x y : Operand} {j cj : Nat} {v zj : Value} {rj : Goroutine}
theorem To.giveSeat (hE : EnvOk E) (hjh : j ≠ h) (hjn : j < n) (hj : role j = .seat cj zj rj) (ho : ops[i]? = some o) (hw : Region.wanted o (yielded ops a.tmps) = true) (hk : b.kind ≠ .early) (hop : o.op = .send x y) (hx : a.eval x = .chan (some cj)) (hy : a.eval y = v)
   {lo hi : Nat} (hz : E.Z c = some (0,lo,hi)) (hfree : ∀ x z r,role x ≠ .seat c z r) (hway : WayQ P (h == 0) E c z Q (G (b.at (a.put o.dst undef) (.inRegion ops rest :: k)) cs))
   (K0 : ∀ r,Q r -> To P Post E Lst j 0 pend n (upd (upd role h (.seat c z r)) j .fin) V (Go.Conc.served rj (recvd false v true))) : To P Post E Lst h 0 pend n role V (G (b.at a (.inRegion ops (i :: rest) :: k)) cs):=by
 obtain ⟨r,hQ,m,hm⟩:=hway
 refine To.give hE (rh:=.seat c z r) (nh:=m) (v:=v) hjh hjn hj rfl (fun w _ _=>⟨#[],by simp,stepG_send_op ho hw hk hop hx hy⟩) (by simp) (fun c' z' r' e=>?_) (fun T' _=>.inl ?_) (K0 r hQ)
 . injection e with e1 e2 e3
   subst e1
   exact ⟨⟨_,_,hz⟩,hfree⟩
 . rw [served_at,ho]; exact hm
theorem To.giveFin (hE : EnvOk E) (hpos : 0 < h) (hjh : j ≠ h) (hjn : j < n) (hj : role j = .seat cj zj rj) (ho : ops[i]? = some o) (hw : Region.wanted o (yielded ops a.tmps) = true) (hk : b.kind ≠ .early) (hop : o.op = .send x y) (hx : a.eval x = .chan (some cj)) (hy : a.eval y = v)
   (hway : ∃ m,Fin P E Lst m 0 (G (b.at (a.put o.dst undef) (.inRegion ops rest :: k)) cs))
   (K0 : To P Post E Lst j 0 pend n (upd (upd role h .fin) j .fin) V (Go.Conc.served rj (recvd false v true))) : To P Post E Lst h 0 pend n role V (G (b.at a (.inRegion ops (i :: rest) :: k)) cs):=by
 obtain ⟨m,hm⟩:=hway
 refine To.give hE (rh:=.fin) (nh:=m) (v:=v) hjh hjn hj rfl (fun w _ _=>⟨#[],by simp,stepG_send_op ho hw hk hop hx hy⟩) (by simp) (fun c' z' r' e=>by cases e) (fun T' hT=>⟨hpos,?_⟩) K0
 rw [hT,served_at,ho]; exact hm
end
theorem To.goSeat {E : Env} {c : Nat} {z : Value} {Q : Goroutine -> Prop} {ops : Array Oper} {i : Nat} {rest : List Nat} {o : Oper} {Post : Value -> World -> Prop} {Lst : Nat -> Nat -> Goroutine -> Prop} {h pend n : Nat} {role : Nat -> Role} {d : Deferred} {f : Fn} {caps : Array Value} (hE : EnvOk E) (ho : ops[i]? = some o) (hw : Region.wanted o (yielded ops a.tmps) = true) (hk : b.kind ≠ .early) (hr : ∀ w,(execOp a.eval o).run P w = .ok (.spawn d) w) (he : ∀ w,(execOp a.eval o).events P w #[] = #[]) (hd : d.target = .fn f caps)
   {lo hi : Nat} (hz : E.Z c = some (0,lo,hi)) (hfree : ∀ x z r,role x ≠ .seat c z r) (hway : WayQ P (h == 0) E c z Q (G (b.at (a.put o.dst undef) (.inRegion ops rest :: k)) cs))
   (K0 : ∀ r,Q r -> To P Post E Lst n 0 pend (n + 1) (upd (upd role h (.seat c z r)) n .fin) V (born P d)) : To P Post E Lst h 0 (pend + 1) n role V (G (b.at a (.inRegion ops (i :: rest) :: k)) cs):=by
 obtain ⟨r,hQ,m,hm⟩:=hway
 refine To.hire hE (rh:=.seat c z r) (nh:=m) (g':=G (b.at (a.put o.dst undef) (.inRegion ops rest :: k)) cs) (child:=born P d) rfl (fun w _ _=>⟨#[],by simp,?_⟩) (by simp) (fun c' z' r' e=>?_) (fun T' _=>.inl hm) (K0 r hQ)
 . rw [stepG_spawn ho hw hk (hr w) hd,listed_no (he w)]
 . injection e with e1 e2 e3
   subst e1
   exact ⟨⟨_,_,hz⟩,hfree⟩
theorem mu_panic {R : World -> Prop} (hK : Mu P R K) {ops : Array Oper} {i : Nat} {rest : List Nat} {o : Oper} {v : Value} (ho : ops[i]? = some o) (hw : Region.wanted o (yielded ops a.tmps) = true) (hk : b.kind ≠ .early) (hr : ∀ w,(execOp a.eval o).run P w = .halt (.panic v) w) (he : ∀ w,(execOp a.eval o).events P w #[] = #[])
   (h : K (G { b.at a (.inRegion ops (i :: rest) :: k) with mode:=.panicking [{ v,recovered:=false }] } cs)) : K (G (b.at a (.inRegion ops (i :: rest) :: k)) cs):=mu_step hK rfl (fun main w=>by
 have hk' : (b.kind == CallKind.early) = false:=by simpa using hk
 rw [stepG_oper ho hw]
 simp [stepG.apply,hr w,he w,G,Frame.at,hk',GStep.after,seen_none,Frame.raise]) h
end
structure MarkK (P : Program) (main : Bool) (Z : Cuts) (K : Nat -> Goroutine -> World -> Prop) : Prop where
 walk : ∀ d g V,Will P main Z (fun g V=>K d g V) g V -> K d g V
 mark : ∀ d g g' V es,g.status = .running -> (∀ w,pz Z w = V -> Fit P Z w -> stepG P main g w = .go g' w es /\ ∀ e ∈ es,EvMk w.heap.size e) -> K (deafBehind d es) g' V -> K d g V
def WillM (P : Program) (main : Bool) (Z : Cuts) (Stop : Goroutine -> World -> Prop) (d : Nat) (g : Goroutine) (V : World) : Prop :=
 ∀ K,MarkK P main Z K -> (∀ g V,Stop g V -> K 0 g V) -> K d g V
section
variable {P : Program} {main : Bool} {Z : Cuts} {Stop Stop' : Goroutine -> World -> Prop} {g : Goroutine} {V : World} {d : Nat}
theorem markM : MarkK P main Z (fun d g V=>WillM P main Z Stop d g V) :=
 ⟨fun d g V h K hK hs=>hK.walk d g V (h.mono fun g V hw=>.stop (hw K hK hs)),fun d g g' V es hr hst h K hK hs=>hK.mark d g g' V es hr hst (h K hK hs)⟩
theorem willM_stop (h : Stop g V) : WillM P main Z Stop 0 g V:=fun K hK hs=>hs g V h
theorem willM_of_will (h : Will P main Z Stop g V) : WillM P main Z Stop 0 g V:=markM.walk 0 g V (h.mono fun g V h=>.stop (willM_stop h))
theorem WillM.mono (h : WillM P main Z Stop d g V) (hs : ∀ g V,Stop g V -> WillM P main Z Stop' 0 g V) : WillM P main Z Stop' d g V:=h _ markM hs
end
section
variable {P : Program} {L : List FuncId} {main : Bool} {Z : Cuts} {K : Nat -> Goroutine -> World -> Prop} {d : Nat} {V V' : World}
theorem MarkK.mu (hK : MarkK P main Z K) : Mu P (fun _=>True) (fun g=>K d g V):=fun g g' hr hs h=>hK.walk d g V (Will.still hr (fun w=>hs main w trivial) (.stop h))
theorem MarkK.muv (hK : MarkK P main Z K) (hn : norm V = V) : MuV P L V (fun g=>K d g V):=fun b a k cs ops i rest o v hb ho hw hok hr hh=>hK.walk d _ V (muv_will (main:=main) hn b a k cs ops i rest o v hb ho hw hok hr (.stop hh))
theorem MarkK.mus (hK : MarkK P main Z K) (hn' : norm V' = V') : MuS P L V V' (fun g=>K d g V) (fun g=>K d g V'):=fun b a k cs ops i rest o hb ho hw hok hr hh=>hK.walk d _ V (mus_will (main:=main) hn' b a k cs ops i rest o hb ho hw hok hr (.stop hh))
theorem MarkK.mua (hK : MarkK P main Z K) (hn' : norm V' = V') : MuA P L V V' (fun g=>K d g V) (fun g=>K d g V'):=fun b a k cs ops i rest o v hb ho hw hok hr hh=>hK.walk d _ V (mua_will (main:=main) hn' b a k cs ops i rest o v hb ho hw hok hr (.stop hh))
theorem MarkK.mud (hK : MarkK P main Z K) : MuD P (fun g=>K d g V):=fun b a k cs id ops h=>hK.walk d _ V (mud_will (main:=main) b a k cs id ops fun t=>.stop (h t))
variable {b : Frame} {a : Act} {ops : Array Oper} {i : Nat} {rest : List Nat} {k : List Item} {cs : List Frame} {o : Oper} {f : FuncId} {fn : Func} {xs : Array Operand} {ats : Array TypeId}
theorem MarkK.disable (hK : MarkK P main Z K) (ho : ops[i]? = some o) (hw : Region.wanted o (yielded ops a.tmps) = true) (hk : b.kind ≠ .early) (hop : o.op = .call { callee:=.value (.func f),args:=xs,argTypes:=ats })
   (hf : P.funcs[f]? = some fn) (hname : (fn.name == "runtime.NumGoroutine") = false) (hb : fn.body.isNone = true) (hn : Extern.findNext fn = none) (he : Extern.find fn = some (fun _ => do Go.mark .disable; pure Extern.Race.none_))
   (h : K (d + 1) (G (b.at (a.put o.dst (.tuple #[])) (.inRegion ops rest :: k)) cs) V) : K d (G (b.at a (.inRegion ops (i :: rest) :: k)) cs) V :=
 hK.mark d _ _ V #[⟨.mark .disable,false,true⟩] rfl (fun w _ _=>⟨stepG_mark0 .disable (by simp) ho hw hk hop hf hname hb hn he,fun e hm=>by obtain rfl:=Array.mem_singleton.1 hm; exact ⟨rfl,trivial⟩⟩) h
theorem MarkK.enable (hK : MarkK P main Z K) (ho : ops[i]? = some o) (hw : Region.wanted o (yielded ops a.tmps) = true) (hk : b.kind ≠ .early) (hop : o.op = .call { callee:=.value (.func f),args:=xs,argTypes:=ats })
   (hf : P.funcs[f]? = some fn) (hname : (fn.name == "runtime.NumGoroutine") = false) (hb : fn.body.isNone = true) (hn : Extern.findNext fn = none) (he : Extern.find fn = some (fun _ => do Go.mark .enable; pure Extern.Race.none_))
   (h : K (d - 1) (G (b.at (a.put o.dst (.tuple #[])) (.inRegion ops rest :: k)) cs) V) : K d (G (b.at a (.inRegion ops (i :: rest) :: k)) cs) V :=
 hK.mark d _ _ V #[⟨.mark .enable,false,true⟩] rfl (fun w _ _=>⟨stepG_mark0 .enable (by simp) ho hw hk hop hf hname hb hn he,fun e hm=>by obtain rfl:=Array.mem_singleton.1 hm; exact ⟨rfl,trivial⟩⟩) h
theorem MarkK.acquire (hK : MarkK P main Z K) (ho : ops[i]? = some o) (hw : Region.wanted o (yielded ops a.tmps) = true) (hk : b.kind ≠ .early) (hop : o.op = .call { callee:=.value (.func f),args:=xs,argTypes:=ats })
   (hf : P.funcs[f]? = some fn) (hname : (fn.name == "runtime.NumGoroutine") = false) (hb : fn.body.isNone = true) (hn : Extern.findNext fn = none) (he : Extern.find fn = some (Extern.Race.marked .acquire)) {ad : Addr} (hx : (xs.map a.eval)[0]? = some (.pointer (some ad))) (hlt : ad.block < V.heap.size)
   (h : K d (G (b.at (a.put o.dst (.tuple #[])) (.inRegion ops rest :: k)) cs) V) : K d (G (b.at a (.inRegion ops (i :: rest) :: k)) cs) V :=
 hK.mark d _ _ V #[⟨.mark (.acquire ad),false,true⟩] rfl (fun w hV _=>⟨stepG_markAt .acquire (by simp) ho hw hk hop hf hname hb hn he hx,fun e hm=>by obtain rfl:=Array.mem_singleton.1 hm; exact ⟨rfl,by subst hV; simpa [pz,MemAct.ofEvent,MemAct.low] using hlt⟩⟩) h
theorem MarkK.releaseMerge (hK : MarkK P main Z K) (ho : ops[i]? = some o) (hw : Region.wanted o (yielded ops a.tmps) = true) (hk : b.kind ≠ .early) (hop : o.op = .call { callee:=.value (.func f),args:=xs,argTypes:=ats })
   (hf : P.funcs[f]? = some fn) (hname : (fn.name == "runtime.NumGoroutine") = false) (hb : fn.body.isNone = true) (hn : Extern.findNext fn = none) (he : Extern.find fn = some (Extern.Race.marked .releaseMerge)) {ad : Addr} (hx : (xs.map a.eval)[0]? = some (.pointer (some ad))) (hlt : ad.block < V.heap.size)
   (h : K d (G (b.at (a.put o.dst (.tuple #[])) (.inRegion ops rest :: k)) cs) V) : K d (G (b.at a (.inRegion ops (i :: rest) :: k)) cs) V :=
 hK.mark d _ _ V #[⟨.mark (.releaseMerge ad),false,true⟩] rfl (fun w hV _=>⟨stepG_markAt .releaseMerge (by simp) ho hw hk hop hf hname hb hn he hx,fun e hm=>by obtain rfl:=Array.mem_singleton.1 hm; exact ⟨rfl,by subst hV; simpa [pz,MemAct.ofEvent,MemAct.low] using hlt⟩⟩) h
end
section
variable {P : Program} {Post : Value -> World -> Prop} {E : Env} {Lst : Nat -> Nat -> Goroutine -> Prop} {h pend n : Nat} {role : Nat -> Role}
theorem To.markV (hE : EnvOk E) {dh : Nat} {V : World} {g g' : Goroutine} {es : Array Event} (hrun : g.status = .running) (hs : ∀ w,pz E.Z w = V -> Fit P E.Z w -> stepG P (h == 0) g w = .go g' w es /\ ∀ e ∈ es,EvMk w.heap.size e)
   (K : To P Post E Lst h (deafBehind dh es) pend n role V g') : To P Post E Lst h dh pend n role V g:=fun T gs w q role' sl hle hsz ha C=>by
 obtain ⟨N,gsQ,wY,d',slQ,slY,TQ,qQ,roleQ,hrn,hst,hszQ,haQ,hleQ,CQ,kn⟩:=C.picked (sl:=sl) hE ha hrun
 obtain ⟨hgo,he⟩:=hs (wY.at d') CQ.view CQ.keep.1
 obtain ⟨CY,haY⟩:=CQ.ownX hE (a':=g') haQ (ChanKept.refl _) rfl CQ.keep CQ.view (fun e hm=>⟨fun b hb=>absurd ((he e hm).1.symm.trans hb) (by simp),(he e hm).2⟩) CQ.count CQ.small CQ.sema
 exact Ends.of_steps (runNT_succ_of hrn (hst.trans (runT_crowd_go (P:=P) (sl:=slY) haQ hgo))) (Ends.kin (kn.at d') (K _ _ _ _ roleQ slY (hle.trans hleQ) (by simpa using hszQ.trans hsz) haY CY))
theorem markTo (hE : EnvOk E) : MarkK P (h == 0) E.Z (fun d g V=>To P Post E Lst h d pend n role V g) :=
 ⟨fun d g V hw=>To.walk hE hw,fun d g g' V es hr hs K=>To.markV hE hr hs K⟩
def To0d (P : Program) (Post : Value -> World -> Prop) (Z : Cuts) (dm : Nat) (V : World) (g : Goroutine) : Prop :=
 ∀ (T : Trace) (gs : Array Goroutine) (w : World) (q : Nat -> Nat) (sl : Option (Nat × Nat)),gs[0]? = some g -> Ald P Z V dm T gs w q -> Ends P (fun v w'=>Kin w w' /\ Post v w') (crowd gs w sl) T
theorem markTo0 {Z : Cuts} : MarkK P true Z (fun d g V=>To0d P Post Z d V g):=by
 refine ⟨fun d g V hW T gs w q sl ha C=>?_,fun d g g' V es hr hs K T gs w q sl ha C=>?_⟩
 . obtain ⟨N,gs',a',w',V',sl',T',q',hr,hsz,ha',hS,C',kn⟩:=Ald.walk hW (sl:=sl) ha C
   exact Ends.of_steps hr (Ends.kin kn (hS T' gs' w' q' sl' ha' C'))
 . obtain ⟨N,gs',w',sl',T',q',h1,ha',C',kn⟩:=C.mark (sl:=sl) ha hr hs
   exact Ends.of_steps h1 (Ends.kin kn (K T' gs' w' q' sl' ha' C'))
end
open Go Go.Conc Go.Proofs
abbrev Lone : List FuncId:=[17,20,21,22,26,27,31,37,39,42,46,47,51,52,53,54,55,56,58,60,63,65,67,68,69,74,75,76,77,90,91,93,94,95,96,97,102,104,105,106,123,127,128,129,130,131,132,133,134,138,139,146,147,150,151,166,168,172,173,182,183]
structure Cw where
 n : Nat
 l : Value
 cb : Nat
 bk : Nat
 lb : Nat
 cap : Nat
 tb : Nat -> Nat
 ch : Nat -> Nat
 f : Nat -> Value
def Cw.tp (C : Cw) (i : Nat) : Value:=.pointer (some ⟨C.tb i,0,none⟩)
structure CwOk (E : Env) (C : Cw) : Prop where
 ok : EnvOk E
 cb : E.Z C.cb = some (3,1,2)
 bk : E.Z C.bk = some (0,0,0)
 tb : ∀ i,i < C.n -> E.Z (C.tb i) = some (5,0,4)
 ch : ∀ i,i < C.n -> E.Z (C.ch i) = some (0,0,0)
 kb : E.Kc ⟨C.cb,1,none⟩ = some (.chan (some C.bk))
 k0 : ∀ i,i < C.n -> E.Kc ⟨C.tb i,0,none⟩ = some (.int .i64 i)
 k1 : ∀ i,i < C.n -> E.Kc ⟨C.tb i,1,none⟩ = some (.pointer (some ⟨C.cb,0,none⟩))
 k2 : ∀ i,i < C.n -> E.Kc ⟨C.tb i,2,none⟩ = some (C.f i)
 k3 : ∀ i,i < C.n -> E.Kc ⟨C.tb i,3,none⟩ = some (.chan (some (C.ch i)))
 st : E.st = ⟨C.cb,3,none⟩
 sm : E.sm = ⟨C.cb,4,none⟩
 tbi : ∀ i j,i < C.n -> j < C.n -> C.tb i = C.tb j -> i = j
 chi : ∀ i j,i < C.n -> j < C.n -> C.ch i = C.ch j -> i = j
 bki : ∀ i,i < C.n -> C.ch i ≠ C.bk
structure CwAt (C : Cw) (ended : Bool) (st : Nat -> Int) (V : World) : Prop where
 crew : V.heap[C.cb]? = some (.cells #[C.l,.chan (some C.bk),.bool ended] 169 (1,2))
 thr : ∀ i,i < C.n -> V.heap[C.tb i]? = some (.cells #[.int .i64 i,.pointer (some ⟨C.cb,0,none⟩),C.f i,.chan (some (C.ch i)),.int .i64 (st i)] 172 (0,4))
section
variable {C : Cw} {E : Env} {V : World} {ended : Bool} {st : Nat -> Int}
theorem cell_of {w : World} {b k : Nat} {cs : Array Value} {t : TypeId} {f : Nat × Nat} {v : Value} (h : w.heap[b]? = some (.cells cs t f)) (hv : cs[k]? = some v) : w.cell? ⟨b,k,none⟩ = some v:=by
 simp [World.cell?,h,hv]
theorem CwAt.c1 (H : CwAt C ended st V) : V.cell? ⟨C.cb,1,none⟩ = some (.chan (some C.bk)):=cell_of H.crew (by simp)
theorem CwAt.c2 (H : CwAt C ended st V) : V.cell? ⟨C.cb,2,none⟩ = some (.bool ended):=cell_of H.crew (by simp)
theorem CwAt.t0 (H : CwAt C ended st V) {i : Nat} (hi : i < C.n) : V.cell? ⟨C.tb i,0,none⟩ = some (.int .i64 i):=cell_of (H.thr i hi) (by simp)
theorem CwAt.t1 (H : CwAt C ended st V) {i : Nat} (hi : i < C.n) : V.cell? ⟨C.tb i,1,none⟩ = some (.pointer (some ⟨C.cb,0,none⟩)):=cell_of (H.thr i hi) (by simp)
theorem CwAt.t2 (H : CwAt C ended st V) {i : Nat} (hi : i < C.n) : V.cell? ⟨C.tb i,2,none⟩ = some (C.f i):=cell_of (H.thr i hi) (by simp)
theorem CwAt.t3 (H : CwAt C ended st V) {i : Nat} (hi : i < C.n) : V.cell? ⟨C.tb i,3,none⟩ = some (.chan (some (C.ch i))):=cell_of (H.thr i hi) (by simp)
theorem CwAt.t4 (H : CwAt C ended st V) {i : Nat} (hi : i < C.n) : V.cell? ⟨C.tb i,4,none⟩ = some (.int .i64 (st i)):=cell_of (H.thr i hi) (by simp)
def Resume (cs : List Frame) (r : Goroutine) : Prop :=
 (∀ (K : Goroutine -> Prop) (R : World -> Prop),Mu Try.prog R K -> ∀ (bQ : Frame) (aQ : Act) (opsQ : Array Oper) (iQ : Nat) (restQ : List Nat) (kQ : List Item) (cs' : List Frame),cs = bQ.at aQ (.inRegion opsQ (iQ :: restQ) :: kQ) :: cs' ->
   K (G (bQ.at (aQ.put ((opsQ[iQ]?).bind (·.dst)) (.tuple #[])) (.inRegion opsQ restQ :: kQ)) cs') -> K (Go.Conc.served r (recvd false (.bool true) true))) /\
 (∀ (K : Goroutine -> Prop) (R : World -> Prop),Mu Try.prog R K -> (∀ (fr : Frame) (x : Value),(∃ fn,Try.prog.funcs[fr.fn]? = some fn) -> fr.kind = .normal -> fr.defers = [] -> fr.mode = .panicking [{ v:=x,recovered:=false }] -> K (G fr cs)) -> K (Go.Conc.served r (recvd false (.bool false) true)))
variable {Post : Value -> World -> Prop} {Lst : Nat -> Nat -> Goroutine -> Prop} {h pend N : Nat} {role : Nat -> Role}
theorem wB07b0 {A : Prop} {k0 : List Item} {B : List Item -> Prop} (h : ∀ kk,kk = k0 -> B kk) (w : Hd (∀ kk,kk = k0 -> B kk) -> A:=by
 intro h
 repeat (first|(with_reducible first|apply hK.sq|apply hK.sk|(apply hK.re;try rw [hkk])|apply hK.bl|refine mu_loop hK ?_|apply hK.ib|refine mu_inLoop hK ?_|apply hK.rt|apply hK.nd)|refine hK.ex rfl ?_|(with_reducible refine hK.rg fun kk hkk=>?_;simp only [ix,Nat.reduceAdd])|(with_reducible first|refine hK.cf ?_|refine hK.ct ?_)|(refine hK.uw rfl rfl ?_;walk_nrm)|(refine hV.vl rfl rfl fun J hJ=>?_;go_simp;with_reducible refine hJ _ ?_;clear hJ J;walk_nrm))
 first | exact h.h kk hkk | (obtain ⟨k2,e⟩ : ∃ x,x = kk:=⟨_,rfl⟩;rw [← e];exact h.h k2 (e.trans hkk)) | (obtain ⟨kk,hkk⟩ : ∃ kk : List Item,kk = []:=⟨_,rfl⟩;exact h.h kk hkk)) : A:=w ⟨h⟩
theorem wB07b1 {A : Prop} {k0 : List Item} {B : List Item -> Prop} (h : ∀ kk,kk = k0 -> B kk) (w : Hd (∀ kk,kk = k0 -> B kk) -> A:=by
 intro h
 repeat (first|(with_reducible first|apply hK.sq|apply hK.sk|(apply hK.re;try rw [hkk])|apply hK.bl|refine mu_loop hK ?_|apply hK.ib|refine mu_inLoop hK ?_|apply hK.rt|apply hK.nd)|refine hK.ex rfl ?_|(with_reducible refine hK.rg fun kk hkk=>?_;simp only [ix,Nat.reduceAdd])|(with_reducible first|refine hK.cf ?_|refine hK.ct ?_)|(refine hK.uw rfl rfl ?_;walk_nrm)|(refine mu_valn hK rfl rfl rfl (by decide) (fun J hJ=>?_) (fun w=>by first|(simp [go_sem, *];done)|(simp [go_sem,Instr.makeInterface, *];done));go_simp;with_reducible refine hJ _ ?_;clear hJ J;walk_nrm))
 first | exact h.h kk hkk | (obtain ⟨k2,e⟩ : ∃ x,x = kk:=⟨_,rfl⟩;rw [← e];exact h.h k2 (e.trans hkk)) | (obtain ⟨kk,hkk⟩ : ∃ kk : List Item,kk = []:=⟨_,rfl⟩;exact h.h kk hkk)) : A:=w ⟨h⟩
theorem stand_go (hO : CwOk E C) (hn : norm V = V) (H : CwAt C false st V) {i : Nat} (hi : i < C.n) {cs : List Frame} {r0 : Goroutine} {z0 : Value} (hh : 0 ≠ h) (h0n : 0 < N) (h0 : role 0 = .seat C.bk z0 r0) (hfree : ∀ x z r,role x ≠ .seat (C.ch i) z r)
   (K0 : ∀ r,Resume cs r -> To Try.prog Post E Lst 0 0 pend N (upd (upd role h (.seat (C.ch i) (.bool false) r)) 0 .fin) V (Go.Conc.served r0 (recvd false (.int .i64 i) true))) : To Try.prog Post E Lst h 0 pend N role V (G (Frame.enter Try.prog 81 #[C.tp i] .normal) cs):=by
 have e2 : ∀ τ,(re V τ 0).cell? ⟨C.cb,2,none⟩ = some (.bool false):=fun τ=>H.c2
 have e1 : ∀ τ,(re V τ 0).cell? ⟨C.tb i,1,none⟩ = some (.pointer (some ⟨C.cb,0,none⟩)):=fun τ=>H.t1 hi
 have e3 : ∀ τ,(re V τ 0).cell? ⟨C.cb,1,none⟩ = some (.chan (some C.bk)):=fun τ=>H.c1
 have e4 : ∀ τ,(re V τ 0).cell? ⟨C.tb i,0,none⟩ = some (.int .i64 i):=fun τ=>H.t0 hi
 rw [enter_at (P:=Try.prog) _ Try.func81 rfl]
 simp only [Try.f81,Cw.tp]
 walk_nrm
 obtain ⟨K,hK,hV,hD,key,yek⟩:=kKVD (L:=Lone) (J:=fun g=>To Try.prog Post E Lst h 0 pend N role V g) (mu_to hO.ok) (muv_to hO.ok hn) (mud_to hO.ok)
 refine key _ ?_
 refine wB07b0 fun kk hkk=>?_
 refine mu_draw 11 hK hV hD (.inl rfl) (by kernel_rfl) ?_
 refine wS ?_
 refine anyQ 0 12 rfl ?_
 refine anyQ 1 12 rfl ?_
 refine anyQ 2 12 rfl ?_
 refine anyQ 3 12 rfl ?_
 refine anyQ 4 12 rfl ?_
 refine anyQ 5 12 rfl ?_
 refine anyQ 6 12 rfl ?_
 refine anyQ 7 12 rfl ?_
 refine anyQ 8 12 rfl ?_
 refine anyQ 9 12 rfl ?_
 refine anyQ 10 12 rfl ?_
 refine anyP_last (by kernel_rfl) (fun t=>?_)
 simp only [Region.linearise.go,List.reverse_nil]
 refine yek _ ?_
 clear hK hV hD key yek K
 refine To.giveSeat hO.ok (v:=.int .i64 i) hh h0n h0 rfl rfl (by decide) rfl rfl rfl (hO.ch i hi) hfree ?_ K0
 obtain ⟨K,hK,key,yek⟩:=kK (J:=WayQ Try.prog (h == 0) E (C.ch i) (.bool false) (Resume cs)) mu_wayQ
 refine key _ ?_
 walk_nrm
 refine wB07b1 fun kk hkk=>?_
 refine yek _ ?_
 refine way_load (ad:=⟨C.tb i,3,none⟩) (v:=.chan (some (C.ch i))) (hO.k3 i hi) rfl rfl (by decide) (fun w hw=>⟨?_,?_⟩) ?_
 . go_simp
 . (simp [listed,go_sem,seen,hw,Try.func81,Try.f81,base,baseD]; try rfl)
 refine key _ ?_
 walk_nrm
 refine yek _ ?_
 clear hK key yek K
 refine wayQ_recv rfl rfl (by decide) (fun w=>by go_simp; try rfl) (fun w=>by simp [go_sem]) ?_
 refine ⟨fun K R hK bQ aQ opsQ iQ restQ kQ cs' e hT=>?_,fun K R hK hT=>?_⟩
 . subst e
   rw [served_at]
   walk_nrm
   simp only [recvd,if_false,Bool.false_eq_true]
   refine wB07b1 fun kk hkk=>?_
   refine mu_leave0 hK rfl rfl Try.func81 rfl ?_
   exact hT
 . rw [served_at]
   walk_nrm
   simp only [recvd,if_false,Bool.false_eq_true]
   refine wB07b1 fun kk hkk=>?_
   refine mu_panic (v:=.iface 214 (.agg #[])) hK rfl rfl (by decide) (fun w=>by go_simp; try rfl) (fun w=>by simp [go_sem]; try rfl) ?_
   exact hT _ _ ⟨_,Try.func81⟩ rfl rfl rfl
end
section
variable {C : Cw} {E : Env} {V : World} {ended : Bool} {st : Nat -> Int} {Post : Value -> World -> Prop} {Lst : Nat -> Nat -> Goroutine -> Prop} {h pend N : Nat} {role : Nat -> Role}
theorem mu_pop {R : World -> Prop} {K : Goroutine -> Prop} (hK : Mu Try.prog R K) {fr c : Frame} {cs : List Frame} {ch : List PanicEntry} (hf : ∃ fn,Try.prog.funcs[fr.fn]? = some fn) (hd : fr.defers = []) (hm : fr.mode = .panicking ch) (hc : c.mode = .run) (h : K (G { c with mode:=.panicking ch } cs)) : K (G fr (c :: cs)) :=
 mu_step hK rfl (fun main w=>by
   obtain ⟨fn,hf⟩:=hf
   have hcat : fr.catches Try.prog = false:=by simp [Frame.catches,hf]
   have hr : c.raise ch = { c with mode:=.panicking ch }:=by simp [Frame.raise,hc]
   simp [G,stepG,unwind,hd,hm,hcat,hr]) h
theorem Resume.up {b : Frame} {a : Act} {ops : Array Oper} {i : Nat} {rest : List Nat} {k : List Item} {cs : List Frame} {r : Goroutine} (hr : Resume (b.at a (.inRegion ops (i :: rest) :: k) :: cs) r) (hb : b.kind = .normal) (hbf : ∃ fn,Try.prog.funcs[b.fn]? = some fn) (ha : a.defers = [])
   (hback : ∀ (K : Goroutine -> Prop) (R : World -> Prop),Mu Try.prog R K -> ∀ (bQ : Frame) (aQ : Act) (opsQ : Array Oper) (iQ : Nat) (restQ : List Nat) (kQ : List Item) (cs' : List Frame),cs = bQ.at aQ (.inRegion opsQ (iQ :: restQ) :: kQ) :: cs' ->
     K (G (bQ.at (aQ.put ((opsQ[iQ]?).bind (·.dst)) (.tuple #[])) (.inRegion opsQ restQ :: kQ)) cs') -> K (G (b.at (a.put ((ops[i]?).bind (·.dst)) (.tuple #[])) (.inRegion ops rest :: k)) cs)) : Resume cs r :=
 ⟨fun K R hK bQ aQ opsQ iQ restQ kQ cs' e hT=>hr.1 K R hK b a ops i rest k cs rfl (hback K R hK bQ aQ opsQ iQ restQ kQ cs' e hT),
   fun K R hK hT=>hr.2 K R hK fun fr x hf hk hd hm=>mu_pop hK hf hd hm rfl (hT _ x hbf hb ha rfl)⟩
theorem yield_go (hO : CwOk E C) (hn : norm V = V) (H : CwAt C false st V) {i : Nat} (hi : i < C.n) {cs : List Frame} {r0 : Goroutine} {z0 : Value} (hh : 0 ≠ h) (h0n : 0 < N) (h0 : role 0 = .seat C.bk z0 r0) (hfree : ∀ x z r,role x ≠ .seat (C.ch i) z r)
   (K0 : ∀ r,Resume cs r -> To Try.prog Post E Lst 0 0 pend N (upd (upd role h (.seat (C.ch i) (.bool false) r)) 0 .fin) V (Go.Conc.served r0 (recvd false (.int .i64 i) true))) : To Try.prog Post E Lst h 0 pend N role V (G (Frame.enter Try.prog 24 #[C.tp i] .normal) cs):=by
 rw [enter_at (P:=Try.prog) _ Try.func24 rfl]
 simp only [Try.f24,Cw.tp]
 walk_nrm
 obtain ⟨K,hK,hV,hD,key,yek⟩:=kKVD (L:=Lone) (J:=fun g=>To Try.prog Post E Lst h 0 pend N role V g) (mu_to hO.ok) (muv_to hO.ok hn) (mud_to hO.ok)
 refine key _ ?_
 refine wB07b0 fun kk hkk=>?_
 refine hK.cl rfl rfl rfl Try.func81 rfl ?_
 walk_nrm
 refine yek _ ?_
 clear hK hV hD key yek K
 refine stand_go hO hn H hi hh h0n h0 hfree (fun r hr=>K0 r (hr.up rfl ⟨_,Try.func24⟩ rfl fun K R hK bQ aQ opsQ iQ restQ kQ cs' e hT=>?_))
 subst e
 walk_nrm
 refine wB07b1 fun kk hkk=>?_
 refine mu_leave0 hK rfl rfl Try.func24 rfl ?_
 exact hT
theorem norm_set {V : World} (hn : norm V = V) (a : Addr) (v : Value) : norm (V.setCell a v) = V.setCell a v:=by
 have : norm (V.setCell a v) = (norm V).setCell a v:=rfl
 rw [this,hn]
theorem CwOk.cbt (hO : CwOk E C) {i : Nat} (hi : i < C.n) : C.tb i ≠ C.cb:=fun e=>by
 have h1:=hO.tb i hi
 rw [e,hO.cb] at h1
 simp at h1
theorem CwAt.put (hO : CwOk E C) (H : CwAt C ended st V) {i : Nat} (hi : i < C.n) (s : Int) : CwAt C ended (upd st i s) (V.setCell ⟨C.tb i,4,none⟩ (.int .i64 s)):=by
 obtain ⟨hl,ht⟩:=H
 refine ⟨?_,fun j hj=>?_⟩
 . rw [setCell_heap,if_neg (fun e=>hO.cbt hi e.symm)]; exact hl
 . rw [setCell_heap]
   by_cases e : j = i
   . subst e
     rw [if_pos rfl,ht j hj,upd_same]
     simp
   . rw [if_neg (fun e'=>e (hO.tbi j i hj hi e')),upd_ne _ _ e]; exact ht j hj
theorem CwAt.f4 (H : CwAt C ended st V) {i : Nat} (hi : i < C.n) : V.frozen? ⟨C.tb i,4,none⟩ = false:=by
 simp [World.frozen?,H.thr i hi]
theorem park_go (hO : CwOk E C) (hn : norm V = V) (H : CwAt C false st V) {i : Nat} (hi : i < C.n) {cs : List Frame} {r0 : Goroutine} {z0 : Value} (hh : 0 ≠ h) (h0n : 0 < N) (h0 : role 0 = .seat C.bk z0 r0) (hfree : ∀ x z r,role x ≠ .seat (C.ch i) z r)
   (K0 : ∀ r,Resume cs r -> To Try.prog Post E Lst 0 0 pend N (upd (upd role h (.seat (C.ch i) (.bool false) r)) 0 .fin) (V.setCell ⟨C.tb i,4,none⟩ (.int .i64 2)) (Go.Conc.served r0 (recvd false (.int .i64 i) true))) : To Try.prog Post E Lst h 0 pend N role V (G (Frame.enter Try.prog 25 #[C.tp i] .normal) cs):=by
 have e2 : ∀ τ,(re V τ 0).cell? ⟨C.cb,2,none⟩ = some (.bool false):=fun τ=>H.c2
 have e1 : ∀ τ,(re V τ 0).cell? ⟨C.tb i,1,none⟩ = some (.pointer (some ⟨C.cb,0,none⟩)):=fun τ=>H.t1 hi
 have e3 : ∀ τ,(re V τ 0).cell? ⟨C.cb,1,none⟩ = some (.chan (some C.bk)):=fun τ=>H.c1
 have e4 : ∀ τ,(re V τ 0).cell? ⟨C.tb i,0,none⟩ = some (.int .i64 i):=fun τ=>H.t0 hi
 have e5 : ∀ τ,(re V τ 0).cell? ⟨C.tb i,4,none⟩ = some (.int .i64 (st i)):=fun τ=>H.t4 hi
 have e6 : ∀ τ,(re V τ 0).frozen? ⟨C.tb i,4,none⟩ = false:=fun τ=>H.f4 hi
 rw [enter_at (P:=Try.prog) _ Try.func25 rfl]
 simp only [Try.f25,Cw.tp]
 walk_nrm
 obtain ⟨K,hK,hV,hD,key,yek⟩:=kKVD (L:=Lone) (J:=fun g=>To Try.prog Post E Lst h 0 pend N role V g) (mu_to hO.ok) (muv_to hO.ok hn) (mud_to hO.ok)
 refine key _ ?_
 refine wB07b0 fun kk hkk=>?_
 refine yek _ ?_
 clear hK hV hD key yek K
 refine mus_put (L:=Lone) (mus_to hO.ok (norm_set hn ⟨C.tb i,4,none⟩ (.int .i64 2))) (K:=fun g=>To Try.prog Post E Lst h 0 pend N role V g) (K':=fun g=>To Try.prog Post E Lst h 0 pend N role (V.setCell ⟨C.tb i,4,none⟩ (.int .i64 2)) g) rfl (.inl rfl) rfl (by kernel_rfl) (fun τ=>?_) ?_
 . go_simp
   rfl
 obtain ⟨K,hK,key,yek⟩:=kK (J:=fun g=>To Try.prog Post E Lst h 0 pend N role (V.setCell ⟨C.tb i,4,none⟩ (.int .i64 2)) g) (mu_to hO.ok)
 refine key _ ?_
 walk_nrm
 refine wB07b1 fun kk hkk=>?_
 refine hK.cl rfl rfl rfl Try.func81 rfl ?_
 walk_nrm
 refine yek _ ?_
 clear hK key yek K
 refine stand_go hO (norm_set hn _ _) (H.put hO hi 2) hi hh h0n h0 hfree (fun r hr=>K0 r (hr.up rfl ⟨_,Try.func25⟩ rfl fun K R hK bQ aQ opsQ iQ restQ kQ cs' e hT=>?_))
 subst e
 walk_nrm
 refine wB07b1 fun kk hkk=>?_
 refine mu_leave0 hK rfl rfl Try.func25 rfl ?_
 exact hT
end
theorem array40 (T : Array Value) (h : T.size = 40) : ∃ v0 v1 v2 v3 v4 v5 v6 v7 v8 v9 v10 v11 v12 v13 v14 v15 v16 v17 v18 v19 v20 v21 v22 v23 v24 v25 v26 v27 v28 v29 v30 v31 v32 v33 v34 v35 v36 v37 v38 v39 : Value,T = #[v0,v1,v2,v3,v4,v5,v6,v7,v8,v9,v10,v11,v12,v13,v14,v15,v16,v17,v18,v19,v20,v21,v22,v23,v24,v25,v26,v27,v28,v29,v30,v31,v32,v33,v34,v35,v36,v37,v38,v39]:=by
 obtain ⟨f,_,e⟩:=arrg T h
 exact ⟨_,_,_,_,_,_,_,_,_,_,_,_,_,_,_,_,_,_,_,_,_,_,_,_,_,_,_,_,_,_,_,_,_,_,_,_,_,_,_,_,e⟩
def nva : Code -> Code | .seq x _=>x | c=>c
def nvb : Code -> Code | .seq _ x=>x | c=>c
def nvk : Code -> Code | .block _ x=>x | c=>c
def nvl : Code -> Code | .loop x=>x | c=>c
noncomputable def B77 : Code:=Try.f77.body.getD .skip
noncomputable def M1 : Code:=nvl (nvk (nvb (nva (nvb (nvb B77)))))
noncomputable def Mz : Code:=nvb (nvb (nvb B77))
section
variable {Post : Value -> World -> Prop} {Z : Cuts} {V : World} {bQ : Frame} {aQ : Act} {opsQ : Array Oper} {iQ : Nat} {restQ : List Nat} {kQ : List Item} {cs0 : List Frame}
theorem to0_born {P : Program} {b : Frame} {a : Act} {ops : Array Oper} {i : Nat} {rest : List Nat} {k : List Item} {cs : List Frame} {o : Oper} {ob : Obj} {s : Nat × Nat × Nat} (hbo : BornOk ob s) (mk : Nat -> Value) (hk : b.kind ≠ .early) (ho : ops[i]? = some o) (hw : Region.wanted o (yielded ops a.tmps) = true)
   (hr : ∀ w,(execOp a.eval o).run P w = .ok (.value (mk w.heap.size)) (w.alloc ob)) (he : ∀ w,(execOp a.eval o).events P w #[] = #[])
   (K : To0 P Post (addZ Z V.heap.size s) (V.alloc (pobj (some s) ob)) (G (b.at (a.put o.dst (mk V.heap.size)) (.inRegion ops rest :: k)) cs)) : To0 P Post Z V (G (b.at a (.inRegion ops (i :: rest) :: k)) cs):=by
 refine To0.alloc (g':=G (b.at (a.put o.dst (mk V.heap.size)) (.inRegion ops rest :: k)) cs) hbo rfl (fun w hV hf=>?_) K
 have hs : w.heap.size = V.heap.size:=by rw [← hV]; simp [pz]
 rw [stepG_value ho hw hk (hr w),listed_no (he w),hs]
 rfl
theorem to0_ex {P : Program} {L : List FuncId} {b : Frame} {a : Act} {ops : Array Oper} {i : Nat} {rest : List Nat} {k : List Item} {cs : List Frame} {o : Oper} (hb : b.kind = .normal) (ho : ops[i]? = some o) (hw : Region.wanted o (yielded ops a.tmps) = true) (hok : opOk P L o.op = true) (Ψ : Value -> World -> Prop)
   (hr : ∀ τ,∃ v W,(execOp a.eval o).run P (re V τ 0) = .ok (.value v) W /\ Ψ v (norm W)) (K : ∀ v V',Ψ v V' -> norm V' = V' -> To0 P Post Z V' (G (b.at (a.put o.dst v) (.inRegion ops rest :: k)) cs)) : To0 P Post Z V (G (b.at a (.inRegion ops (i :: rest) :: k)) cs) :=
 To0.walk (will_oper hb ho hw hok fun τ=>by
   obtain ⟨v,W,e,h1⟩:=hr τ
   rw [e]
   exact Will.stop (K v _ h1 rfl))
theorem norm_al {V : World} (hn : norm V = V) (o : Obj) : norm (V.alloc o) = V.alloc o:=by
 have : norm (V.alloc o) = (norm V).alloc o:=rfl
 rw [this,hn]
theorem al_get (V : World) (o : Obj) (b : Nat) : (V.alloc o).heap[b]? = if b = V.heap.size then some o else V.heap[b]?:=by
 show (V.heap.push _)[b]? = _
 rw [Array.getElem?_push]
theorem al_size (V : World) (o : Obj) : (V.alloc o).heap.size = V.heap.size + 1:=by
 show (V.heap.push _).size = _
 rw [Array.size_push]
theorem al_kp (V : World) (o : Obj) : ∀ b,b < V.heap.size -> b = b -> (V.alloc o).heap[b]? = V.heap[b]?:=fun b hb _=>by rw [al_get,if_neg (by omega)]
theorem al_at (V : World) (o : Obj) : (V.alloc o).heap[V.heap.size]? = some o:=by rw [al_get,if_pos rfl]
theorem qc {W : World} (i : Nat) {b : Nat} {l : List Value} {t : TypeId} {v : Value} (h : W.heap[b]? = some (.cells l.toArray t (0,0))) (hv : l[i]? = some v) : ∀ τ,(re W τ 0).cell? ⟨b,i,none⟩ = some v:=fun τ=>cell_of (w:=re W τ 0) h (by simpa using hv)
theorem qz {W : World} (i : Nat) {b : Nat} {c : Array Value} {t : TypeId} (h : W.heap[b]? = some (.cells c t (0,0))) : ∀ τ,(re W τ 0).frozen? ⟨b,i,none⟩ = false:=fun τ=>by simp [World.frozen?,re,h]
theorem wM {P : Program} {main : Bool} {Z : Cuts} {KK : Nat -> Goroutine -> World -> Prop} {d : Nat} {V : World} (hM : MarkK P main Z KK) (hn : norm V = V) {g : Goroutine} {k0 : List Item} {B : (Goroutine -> Prop) -> List Item -> Prop} (h : ∀ kk,kk = k0 -> B (fun g=>KK d g V) kk) (w : ∀ K,Mu P (fun _=>True) K -> MuV P Lone V K -> Hd (∀ kk,kk = k0 -> B K kk) -> K g:=by
 intro K hK hV h
 repeat (first|(with_reducible first|apply hK.sq|apply hK.sk|(apply hK.re;try rw [hkk])|apply hK.bl|apply hK.ib|apply hK.rt|apply hK.nd)|refine hK.ex rfl ?_|(with_reducible refine hK.rg fun kk hkk=>?_;simp only [ix,Nat.reduceAdd])|(with_reducible first|refine hK.cf ?_|refine hK.ct ?_)|(refine hK.uw rfl rfl ?_;walk_nrm)|(refine hV.vl rfl rfl fun J hJ=>?_;go_simp;with_reducible refine hJ _ ?_;clear hJ J;walk_nrm))
 first | exact h.h kk hkk | (obtain ⟨k2,e⟩ : ∃ x,x = kk:=⟨_,rfl⟩;rw [← e];exact h.h k2 (e.trans hkk)) | (obtain ⟨kk,hkk⟩ : ∃ kk : List Item,kk = []:=⟨_,rfl⟩;exact h.h kk hkk)) : KK d g V:=w _ hM.mu (hM.muv hn) ⟨h⟩
theorem MarkK.cl {P : Program} {main : Bool} {Z : Cuts} {KK : Nat -> Goroutine -> World -> Prop} {d : Nat} {V : World} (hM : MarkK P main Z KK) {b : Frame} {a : Act} {k : List Item} {cs : List Frame} {ops : Array Oper} {i : Nat} {rest : List Nat} {o : Oper} {f : FuncId} {fn : Func} {c : Code} {args : Array Operand} {ats : Array TypeId} (ho : ops[i]? = some o) (hw : Region.wanted o (yielded ops a.tmps) = true) (hop : o.op = .call { callee := .value (.func f),args,argTypes := ats }) (hf : P.funcs[f]? = some fn) (hb : fn.body = some c)
 (h : KK d (G (Frame.enter P f (args.map a.eval) .normal) (b.at a (.inRegion ops (i :: rest) :: k) :: cs)) V) (hk : b.kind ≠ .early:=by decide) (hname : (fn.name == "runtime.NumGoroutine") = false:=by kernel_rfl) : KK d (G (b.at a (.inRegion ops (i :: rest) :: k)) cs) V:=Mu.cl (K:=fun g=>KK d g V) hM.mu ho hw hop hf hb h hk hname
theorem MarkK.al {P : Program} {main : Bool} {Z : Cuts} {KK : Nat -> Goroutine -> World -> Prop} {d : Nat} {V : World} (hM : MarkK P main Z KK) (hn : norm V = V) (cs' : Array Value) (t : TypeId) (v : Value) {b : Frame} {a : Act} {k : List Item} {cs : List Frame} {ops : Array Oper} {i : Nat} {rest : List Nat} {o : Oper} (ho : ops[i]? = some o) (hw : Region.wanted o (yielded ops a.tmps) = true)
 (h : ∀ U,norm U = U -> (∀ b,b < V.heap.size -> b = b -> U.heap[b]? = V.heap[b]?) -> U.heap.size = V.heap.size + 1 -> U.heap[V.heap.size]? = some (.cells cs' t (0,0)) -> KK d (G (b.at (a.put o.dst v) (.inRegion ops rest :: k)) cs) U)
 (hr : ∀ τ,(execOp a.eval o).run P (re V τ 0) = .ok (.value v) (re (V.alloc (.cells cs' t)) τ 0):=by
   intro τ
   go_simp
   first | exact ⟨by first | rfl | assumption | (simp only [re]; omega),rfl⟩ | rfl | (simp; done)) (hb : b.kind = .normal ∨ b.kind = .deferred:=by exact .inl rfl) (hok : opOk P Lone o.op = true:=by kernel_rfl) : KK d (G (b.at a (.inRegion ops (i :: rest) :: k)) cs) V:=
 mua_put (L:=Lone) (hM.mua (norm_al hn _)) ho hb hw hok hr (h _ (norm_al hn _) (al_kp _ _) (al_size _ _) (al_at _ _))
theorem al_lt (V : World) (o : Obj) : V.heap.size < (V.alloc o).heap.size:=by rw [al_size]; omega
theorem sc_kp (V : World) (B i : Nat) (v : Value) : ∀ b,b < V.heap.size -> b ≠ B -> (V.setCell ⟨B,i,none⟩ v).heap[b]? = V.heap[b]?:=fun b _ hb=>by rw [setCell_heap,if_neg hb]
theorem sc_le (V : World) (B i : Nat) (v : Value) : V.heap.size <= (V.setCell ⟨B,i,none⟩ v).heap.size:=by simp [World.setCell]
theorem glt {V : World} {b : Nat} {o : Obj} (h : V.heap[b]? = some o) : b < V.heap.size:=(Array.getElem?_eq_some_iff.1 h).1
def tps (tb : Nat -> Nat) (k : Nat) : List Value:=(List.range k).map fun i=>Value.pointer (some ⟨tb i,0,none⟩)
def isNil : Value -> Bool | .nilFunc=>true | _=>false
def st0 (fs : List Value) (i : Nat) : Int:=if isNil (fs.getD i .nilFunc) then 3 else 0
structure Mst (ZQ : Cuts) (VQ : World) (fs : List Value) (cb bk : Nat) (k : Nat) (tb ch : Nat -> Nat) (Z : Cuts) (V : World) (lv : Value) : Prop where
 nrm : norm V = V
 zcb : Z cb = some (3,0,0)
 zbk : Z bk = some (0,0,0)
 ztb : ∀ i,i < k -> Z (tb i) = some (5,0,4)
 zch : ∀ i,i < k -> Z (ch i) = some (0,0,0)
 zold : ∀ b,b < VQ.heap.size -> Z b = ZQ b
 znew : ∀ b s,Z b = some s -> b < VQ.heap.size ∨ b = cb ∨ b = bk ∨ ∃ i,i < k /\ (b = tb i ∨ b = ch i)
 crew : V.heap[cb]? = some (.cells #[lv,.chan (some bk),.bool false] 169 (0,0))
 thr : ∀ i,i < k -> V.heap[tb i]? = some (.cells #[.int .i64 i,.pointer (some ⟨cb,0,none⟩),fs.getD i .nilFunc,.chan (some (ch i)),.int .i64 (st0 fs i)] 172 (0,4))
 row : V.ownsRow 0 50 1 lv k (tps tb k)
 rown : ∀ b,lv.ownBlock = some b -> VQ.heap.size <= b /\ b ≠ cb /\ b ≠ bk /\ ∀ i,i < k -> b ≠ tb i /\ b ≠ ch i
 old : ∀ b,b < VQ.heap.size -> V.heap[b]? = VQ.heap[b]?
 lo : VQ.heap.size <= bk /\ bk < cb /\ cb < V.heap.size
 ord : ∀ i,i < k -> cb < ch i /\ ch i < tb i /\ tb i < V.heap.size
 inc : ∀ i j,i < j -> j < k -> tb i < ch j
end
theorem row_at {V : World} {base : Nat} {e : TypeId} {size : Nat} {v : Value} {n : Nat} {xs : List Value} (h : V.ownsRow base e size v n xs) {b : Nat} (hb : v.ownBlock = some b) : b < V.heap.size:=by
 obtain ⟨_,h2⟩:=h
 rcases h2 with ⟨rfl,_⟩ | ⟨g,cap,cur,rfl,_,h4,_⟩
 . cases hb
 . obtain rfl : g = b:=by simpa [Value.ownBlock] using hb
   exact (Array.getElem?_eq_some_iff.1 h4).1
theorem row_keep {w w' : World} {base : Nat} {e : TypeId} {size : Nat} {v : Value} {n : Nat} {xs : List Value} (h : w.ownsRow base e size v n xs) (hk : ∀ b,v.ownBlock = some b -> w'.heap[b]? = w.heap[b]?) : w'.ownsRow base e size v n xs:=by
 obtain ⟨h1,h2⟩:=h
 refine ⟨h1,h2.imp id ?_⟩
 rintro ⟨g,cap,cur,rfl,h3,h4,h5⟩
 exact ⟨g,cap,cur,rfl,h3,by rw [hk g rfl]; exact h4,h5⟩
theorem tps_next (tb : Nat -> Nat) (k x : Nat) : tps (upd tb k x) (k + 1) = tps tb k ++ [.pointer (some ⟨x,0,none⟩)]:=by
 unfold tps
 rw [List.range_succ,List.map_append]
 congr 1
 . apply List.map_congr_left
   intro i hi
   have : i < k:=by simpa using hi
   rw [upd_ne _ _ (by omega)]
 . simp [upd_same]
theorem mst_next {ZQ Z : Cuts} {VQ V V3 V5 : World} {fs : List Value} {cb bk k : Nat} {tb ch : Nat -> Nat} {lv lv' : Value} (M : Mst ZQ VQ fs cb bk k tb ch Z V lv)
   (hsz : V3.heap.size = V.heap.size + 2) (h3 : ∀ b,b < V.heap.size -> V3.heap[b]? = V.heap[b]?)
   (ht : V3.heap[V.heap.size + 1]? = some (.cells #[.int .i64 k,.pointer (some ⟨cb,0,none⟩),fs.getD k .nilFunc,.chan (some V.heap.size),.int .i64 (st0 fs k)] 172 (0,4)))
   (hn5 : norm V5 = V5) (hrow : V5.ownsRow 0 50 1 lv' (k + 1) (tps tb k ++ [.pointer (some ⟨V.heap.size + 1,0,none⟩)])) (hg1 : V.heap.size + 3 <= V5.heap.size) (hg2 : ∀ b,b < V.heap.size + 2 -> lv.ownBlock ≠ some b -> V5.heap[b]? = V3.heap[b]?)
   (hown : lv'.ownBlock = lv.ownBlock ∨ lv'.ownBlock = some (V.heap.size + 3)) :
   Mst ZQ VQ fs cb bk (k + 1) (upd tb k (V.heap.size + 1)) (upd ch k V.heap.size) (addZ (addZ Z V.heap.size (0,0,0)) (V.heap.size + 1) (5,0,4)) (V5.setCell ⟨cb,0,none⟩ lv') lv':=by
 have hlo:=M.lo
 have hne : ∀ b,lv.ownBlock = some b -> b < V.heap.size:=fun b hb=>row_at M.row hb
 have hz : ∀ b,b < V.heap.size -> addZ (addZ Z V.heap.size (0,0,0)) (V.heap.size + 1) (5,0,4) b = Z b:=fun b hb=>by
   unfold addZ
   rw [if_neg (by omega),if_neg (by omega)]
 have hkeep : ∀ b,b < V.heap.size -> lv.ownBlock ≠ some b -> V5.heap[b]? = V.heap[b]?:=fun b hb h=>(hg2 b (by omega) h).trans (h3 b hb)
 have hget : ∀ b,b ≠ cb -> (V5.setCell ⟨cb,0,none⟩ lv').heap[b]? = V5.heap[b]?:=fun b hb=>by rw [setCell_heap,if_neg hb]
 have hut : ∀ i,i < k -> upd tb k (V.heap.size + 1) i = tb i:=fun i hi=>upd_ne _ _ (by omega)
 have huc : ∀ i,i < k -> upd ch k V.heap.size i = ch i:=fun i hi=>upd_ne _ _ (by omega)
 have hnow : ∀ b,VQ.heap.size <= b -> lv.ownBlock ≠ some b -> ∀ b',lv.ownBlock = some b' -> b' ≠ b:=fun b _ h b' hb' e=>h (by rw [← e]; exact hb')
 have hlvcb : lv.ownBlock ≠ some cb:=fun e=>(M.rown cb e).2.1 rfl
 have hlvt : ∀ i,i < k -> lv.ownBlock ≠ some (tb i):=fun i hi e=>((M.rown _ e).2.2.2 i hi).1 rfl
 refine ⟨norm_set hn5 _ _,by rw [hz cb hlo.2.2]; exact M.zcb,by rw [hz bk (by omega)]; exact M.zbk,fun i hi=>?_,fun i hi=>?_,fun b hb=>by rw [hz b (by omega)]; exact M.zold b hb,fun b s hb=>?_,?_,fun i hi=>?_,?_,fun b hb=>?_,fun b hb=>?_,⟨hlo.1,hlo.2.1,by rw [size_setCell]; omega⟩,fun i hi=>?_,fun i j hij hj=>?_⟩
 . by_cases e : i = k
   . subst e; rw [upd_same]; unfold addZ; rw [if_pos rfl]
   . have hik : i < k:=by omega
     rw [hut i hik,hz _ (M.ord i hik).2.2]; exact M.ztb i hik
 . by_cases e : i = k
   . subst e; rw [upd_same]; unfold addZ; rw [if_neg (by omega),if_pos rfl]
   . have hik : i < k:=by omega
     rw [huc i hik,hz _ (by have:=M.ord i hik; omega)]; exact M.zch i hik
 . unfold addZ at hb
   split at hb
   . rename_i e
     exact .inr (.inr (.inr ⟨k,by omega,.inl (by rw [upd_same]; exact e)⟩))
   . split at hb
     . rename_i e
       exact .inr (.inr (.inr ⟨k,by omega,.inr (by rw [upd_same]; exact e)⟩))
     . rcases M.znew b s hb with h | h | h | ⟨i,hi,h⟩
       . exact .inl h
       . exact .inr (.inl h)
       . exact .inr (.inr (.inl h))
       . exact .inr (.inr (.inr ⟨i,by omega,by rw [hut i hi,huc i hi]; exact h⟩))
 . rw [setCell_heap,if_pos rfl,hkeep cb hlo.2.2 hlvcb,M.crew]
   simp
 . by_cases e : i = k
   . subst e
     rw [upd_same,upd_same,hget _ (by omega),hg2 _ (by omega) (fun e=>by have:=hne _ e; omega)]
     exact ht
   . have hik : i < k:=by omega
     have h1:=M.ord i hik
     rw [hut i hik,huc i hik,hget _ (by omega),hkeep _ h1.2.2 (hlvt i hik)]
     exact M.thr i hik
 . rw [tps_next]
   refine row_keep hrow fun b hb=>hget b fun e=>?_
   subst e
   rcases hown with h | h
   . rw [h] at hb; exact hlvcb hb
   . rw [h] at hb; simp at hb; omega
 . rcases hown with h | h
   . rw [h] at hb
     obtain ⟨h1,h2,h3,h4⟩:=M.rown b hb
     refine ⟨h1,h2,h3,fun i hi=>?_⟩
     by_cases e : i = k
     . subst e; rw [upd_same,upd_same]; have:=hne b hb; omega
     . rw [hut i (by omega),huc i (by omega)]; exact h4 i (by omega)
   . rw [h] at hb
     obtain rfl : V.heap.size + 3 = b:=by simpa using hb
     refine ⟨by omega,by omega,by omega,fun i hi=>?_⟩
     by_cases e : i = k
     . subst e; rw [upd_same,upd_same]; omega
     . have:=M.ord i (by omega)
       rw [hut i (by omega),huc i (by omega)]; omega
 . rw [hget b (by omega),hkeep b (by omega) (fun e=>by have:=(M.rown b e).1; omega)]
   exact M.old b hb
 . rw [size_setCell]
   by_cases e : i = k
   . subst e; rw [upd_same,upd_same]; omega
   . have:=M.ord i (by omega)
     rw [hut i (by omega),huc i (by omega)]; omega
 . by_cases e : j = k
   . subst e
     rw [upd_same,hut i (by omega)]
     exact (M.ord i (by omega)).2.2
   . rw [hut i (by omega),huc j (by omega)]
     exact M.inc i j hij (by omega)
end Go.Proofs.Ytibcdikfbhmheaa
