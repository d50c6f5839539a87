import Derived.Test.YtibcdikfbhmheaaB16
import Derived.Below
import Derived.WalkKit
import Derived.ProofKit
import Derived.OpenShut
import Derived.ChangeSame
import Derived.WideKeyArgs
set_option linter.unusedSimpArgs false
set_option linter.unusedVariables false
namespace Go.Proofs.Ytibcdikfbhmheaa
open Go Go.Conc Go.Proofs Go.RowKit
def bp (b : Nat) : Value:=.pointer (some ⟨b,0,none⟩)
def noZ : Cuts:=fun _=>none
def vw (W : World) : World:=pz noZ W
theorem vw_size (W : World) : (vw W).heap.size = W.heap.size:=by simp [vw,pz]
theorem vw_get (W : World) (b : Nat) : (vw W).heap[b]? = (W.heap[b]?).map (pobj none):=by
 simp [vw,pz,noZ,Array.getElem?_mapIdx]
theorem vw_cell {W : World} {a : Addr} {v : Value} (h : W.cell? a = some v) : (vw W).cell? a = some v:=by
 unfold World.cell? at *
 rw [vw_get]
 cases ho : W.heap[a.block]? with
 | none=>rw [ho] at h; simp at h
 | some o =>
   rw [ho] at h
   cases o <;> exact h
theorem race0 (said : Bool) : ¬ Race said #[]:=by
 rintro ⟨i,j,_,⟨a,b,ha,_⟩,_⟩
 simp [Trace.act?] at ha
theorem ini {W : World} {g : Goroutine} {Post : Value -> World -> Prop} (K : To0 Try.prog Post noZ (vw W) g) : Ends Try.prog (fun v w'=>Kin W w' /\ Post v w') (solo g W) #[]:=by
 refine K #[] #[g] W (fun _=>0) none rfl ⟨⟨fun i x hi hx=>?_,fun j hj=>?_⟩,⟨race0,fun i a h=>?_,fun i a h=>?_,fun i a h=>?_,fun x h hne=>?_,?_,fun op hop=>?_⟩,⟨fun b s h=>(by cases h),fun b k lo hi h=>(by cases h),fun b lo hi h=>(by cases h),fun b hb=>?_,by kernel_rfl⟩,rfl,fun c lo hi h=>(by cases h),fun b h=>(by cases h)⟩
 . rw [Array.getElem?_eq_none (by simp; omega)] at hx; cases hx
 . rfl
 . obtain ⟨x,hx,_⟩:=touch_of h
   simp at hx
 . obtain ⟨x,hx,_⟩:=touch_of h
   simp at hx
 . obtain ⟨x,hx,_⟩:=touch_of h
   simp at hx
 . exact absurd h hne
 . rfl
 . simp at hop
 . have : Try.prog.globals.size = 0:=by kernel_rfl
   omega
def LPost (W : World) (v : Value) (w' : World) : Prop:=v = .bool true /\ ∃ Z' : Cuts,(∀ b,b < W.heap.size -> Z' b = none) /\ Kp (vw W) (pz Z' w')
theorem below_of {W w' : World} {v : Value} (k : Kin W w') (h : LPost W v w') : v = .bool true /\ Below W.heap.size W w':=by
 obtain ⟨rfl,Z',hz,hk⟩:=h
 refine ⟨rfl,k.os,k.tape,k.output,?_,fun b hb=>?_⟩
 . have:=hk.size
   rw [vw_size] at this
   simpa [pz] using this
 . have h1:=hk.keep b (by rw [vw_size]; exact hb)
   rw [vw_get,pz_heap,hz b hb] at h1
   cases ho : W.heap[b]? with
   | none=>rw [ho] at h1; simpa using h1
   | some o =>
     rw [ho] at h1
     obtain ⟨x,hx,e⟩:=Option.map_eq_some_iff.1 h1
     rw [hx]
     cases x with
     | view a u=>rw [← ho]; exact (k.view b a u hx).symm
     | _=>cases o <;> first | (simp [pobj] at e; done) | (simp only [pobj] at e; rw [e])
theorem stepG_last {P : Program} {b : Frame} {a : Act} {todo : List Item} {fn : Func} {v : Value} {w : World} (hi : P.inits.idxOf? b.fn = none) (hn : b.kind = .normal) (hd : a.defers = []) (hf : P.funcs[b.fn]? = some fn)
   (hr : (results fn a.tmps).run P w = .ok v w) (he : (results fn a.tmps).events P w #[] = #[]) :
   stepG P true (G { b.at a todo with mode:=.returning } []) w = .ended (.done v) w #[]:=by
 simp [G,stepG,unwind,doReturn,Frame.at,hn,hd,hf,hr,he,seen,GStep.after,hi]
theorem law_last {W V' : World} {Z' : Cuts} {b : Frame} {a : Act} {todo : List Item} {fn : Func} {t : Tmp} (hi : Try.prog.inits.idxOf? b.fn = none) (hn : b.kind = .normal) (hd : a.defers = []) (hf : Try.prog.funcs[b.fn]? = some fn) (hr : fn.results = #[.tmp t]) (ht : a.tmps.getD t undef = .bool true)
   (hz : ∀ x,x < (vw W).heap.size -> Z' x = noZ x) (hk : Kp (vw W) V') : To0 Try.prog (LPost W) Z' V' (G { b.at a todo with mode:=.returning } []) :=
 To0.ends rfl fun w hV _=>⟨.bool true,#[],stepG_last hi hn hd hf (by rw [← ht]; exact results_tmp hr _ _ w) (events_results_tmp hr _ _),by simp,rfl,Z',fun x hx=>hz x (by rw [vw_size]; exact hx),by rw [hV]; exact hk⟩
structure LS (W : World) (Z : Cuts) (V : World) : Prop where
 n : norm V = V
 z : ∀ b,Z b ≠ some (3,0,0)
 o : ∀ x,x < (vw W).heap.size -> Z x = noZ x
 k : Kp (vw W) V
theorem LS.start (W : World) : LS W noZ (vw W):=⟨rfl,fun _ h=>(by cases h),fun _ _=>rfl,Kp.refl _⟩
theorem LS.next {W V V' : World} {Z Z' : Cuts} (L : LS W Z V) (hn : norm V' = V') (hz : ∀ b,Z' b ≠ some (3,0,0)) (ho : ∀ b,b < V.heap.size -> Z' b = Z b) (k : Kp V V') : LS W Z' V':=⟨hn,hz,fun x hx=>(ho x (Nat.lt_of_lt_of_le hx L.k.size)).trans (L.o x hx),L.k.trans k⟩
theorem LS.same {W V V' : World} {Z : Cuts} (L : LS W Z V) (hn : norm V' = V') (k : Kp V V') : LS W Z V':=L.next hn L.z (fun _ _=>rfl) k
open Go Go.Conc Go.Proofs Go.ChangeShapes Go.WideShapes Go.ChangeAt Go.RowKit
theorem lit_u8 {n : Int} (h : (Lit.int .u8 n).wf = true) : 0 <= n /\ n < 256:=by
 simp [Lit.wf,IntKind.min,IntKind.max,IntKind.signed,IntKind.bits] at h
 omega
theorem cell_row {w : World} {a : Addr} {v : Value} (h : w.cell? a = some v) : a.spot = none:=by
 unfold World.cell? at h
 cases ho : w.heap[a.block]? with
 | none=>rw [ho] at h; simp at h
 | some o =>
   rw [ho] at h
   cases o with
   | cells c e f =>
     cases hs : a.spot with
     | none=>rfl
     | some k=>simp [hs] at h
   | _=>simp at h
section
variable {H : Type} {enc : TypeId × Value -> H} {W : World}
end
open Go.RowKit Go.WideShapes Go.ChangeShapes
section
variable {H : Type} {enc : TypeId × Value -> H} {P : Program}
theorem trodAll_stay (hl : laidOutB P = true) {W W' : World} {sp : Nat -> Bool} : ∀ (ts : List TypeId) (vs : List Value) (ds : List (DataW H)) (ps : List MemPlace),
   (ts.all fun t=>P.readableRec t && decide (t < P.types.size)) = true -> DataW.TrodAll enc P W 0 (fun _=>true) true ts vs ds ps -> (∀ p ∈ ps,W.sameAt W' p) -> (∀ p ∈ ps,sp p.block = true) ->
   DataW.TrodAll enc P W' 0 sp true ts vs ds ps
 | [],vs,ds,ps,_,h,_,_=>by
   obtain ⟨rfl,rfl,rfl⟩:=trodAll_nil h
   exact trodAll_mk0
 | t :: ts,vs,ds,ps,hr,h,h1,h2=>by
   obtain ⟨v,vs',d,ds',p,q,rfl,rfl,rfl,hp,hq⟩:=trodAll_cons h
   simp only [List.all_cons,Bool.and_eq_true,decide_eq_true_eq] at hr
   exact trodAll_cons_mk (WideElems.Trod_stays hl hr.1.1 hr.1.2 hp (fun x hx=>h1 x (by simp [hx])) (fun x hx=>h2 x (by simp [hx])))
     (trodAll_stay hl ts vs' ds' q hr.2 hq (fun x hx=>h1 x (by simp [hx])) (fun x hx=>h2 x (by simp [hx])))
theorem law_post {f : Func} {s : ChangeSpec} {W W' : World} {args : Array Value} {ds gs : List (DataW H)} {before : List MemPlace} {tb : TypeId}
   (hl : laidOutB P = true) (hts : (f.params.toList.all fun t=>P.readableRec t && decide (t < P.types.size)) = true)
   (hr : f.resultTypes = #[tb]) (hb : P.underlying tb = some .bool) (hv : s.vars = [])
   (hW : DataW.Whole enc P f.params.toList s.vars false W args.toList ds gs before)
   (hs : s.fn H (ds ++ gs) = { results:=[.lit (.bool true)],args:=ds }) (bel : Below W.heap.size W W') :
   s.post enc P f false true false false W args (.bool true) W':=by
 have hW0:=hW
 obtain ⟨p,q,hA,hV,rfl,hfz,hnd⟩:=hW
 have hlt : ∀ x ∈ p ++ q,x.block < W.heap.size:=fun x hx=>hW0.lt x hx
 rw [hv] at hV
 obtain ⟨rfl,rfl⟩:=trodVars_none hV
 have hA':=trodAll_stay (sp:=fun b=>decide (b < W.heap.size)) (W':=W') hl _ _ _ _ hts hA (fun x hx=>bel.same (hlt x (by simp [hx]))) (fun x hx=>by simpa using hlt x (by simp [hx]))
 refine ⟨ds,[],_,[],p,[],hW0,?_,?_,?_,Below.frame bel _,fun h=>by cases h⟩
 . rw [hs,hr]
   exact trodAll_mk1 (shut_bool hb _)
 . rw [hs]; exact hA'
 . rw [hs,hv]; rfl
end
section
variable {H : Type} {enc : TypeId × Value -> H} {W : World}
end
end Go.Proofs.Ytibcdikfbhmheaa
