import Derived.Test.YtibcdikfbhmheaaQK04
import Derived.Test.YtibcdikfbhmheaaB17
import Derived.Laws.MakeOwn
import Derived.Test.YtibcdikfbhmheaaB14
set_option linter.unusedSimpArgs false
set_option linter.unusedVariables false
set_option maxRecDepth 100000
namespace Go.Proofs.Ytibcdikfbhmheaa
open Go Go.Conc Go.Proofs
open Go.ConcN (sumTo upd sumTo_upd upd_ne upd_same)
set_option linter.unusedVariables false
end Go.Proofs.Ytibcdikfbhmheaa

namespace Go.Proofs.Ytibcdikfbhmheaa
open Go Go.Conc Go.Proofs
open Go.ConcN (sumTo upd sumTo_upd upd_ne upd_same)
set_option linter.unusedVariables false
section
variable {V : World} {Z : Cuts} {Post : Value → World → Prop} {pl pc Rn rb sb n k j : Nat} {pa : Option Addr} {T : Array Value} {kt : List Item} {cs0 : List Frame}
end
section
variable {V0 V V1 W : World} {n lc i sb rb : Nat} {la : Option Addr} {acts : Nat → List (Int × Int)} {ra : Nat → Option Addr} {rc : Nat → Nat} {x : TS × List Nat} {v : Value}
theorem RS.self (S : RS V0 n la lc acts x v V) : RS V n la lc acts x v V:=⟨S.nrm,Kp.refl V,S.out,S.le,S.cnt⟩
theorem RS.back (S : RS V n la lc acts x v V1) (h : Kp V0 V) : RS V0 n la lc acts x v V1:=⟨S.nrm,h.trans S.kp,S.out,S.le,S.cnt⟩
theorem RS.put (S : RS V0 n la lc acts x v V) {c : Array Value} (hb : V.heap[sb]? = some (.cells c 34 (0,0))) (hlo : V0.heap.size ≤ sb) (hoff : ∀ b,b ≠ sb → W.heap[b]? = V.heap[b]?) (hsz : W.heap.size = V.heap.size) (hn : norm W = W) : RS V0 n la lc acts x v W:=by
 obtain ⟨nrm,kp,⟨av,ov,pv,odv,lgv,e,r1,r2,r3,r4,r5⟩,le,cnt⟩:=S
 refine ⟨hn,⟨by rw [hsz]; exact kp.size,fun b h=>by rw [hoff b (by omega)]; exact kp.keep b h⟩,⟨av,ov,pv,odv,lgv,e,row_keep r1 fun b h=>hoff b fun e=>own_tyK r1 hb (by decide) (e ▸ h),row_keep r2 fun b h=>hoff b fun e=>own_tyK r2 hb (by decide) (e ▸ h),row_keep r3 fun b h=>hoff b fun e=>own_tyK r3 hb (by decide) (e ▸ h),row_keep r4 fun b h=>hoff b fun e=>own_tyK r4 hb (by decide) (e ▸ h),row_keep r5 fun b h=>hoff b fun e=>own_tyK r5 hb (by decide) (e ▸ h)⟩,le,cnt⟩
end
end Go.Proofs.Ytibcdikfbhmheaa

namespace Go.Proofs.Ytibcdikfbhmheaa
open Go Go.Conc Go.Proofs
open Go.ConcN (sumTo upd sumTo_upd upd_ne upd_same)
set_option linter.unusedVariables false
def Fxg : List (Nat × Value) → Array Value → Prop
 | [],_=>True
 | (j,v) :: l,T=>T[j]? = some v ∧ Fxg l T
def Fg (z : Nat) (l : List (Nat × Value)) (T : Array Value) : Prop:=T.size = z ∧ Fxg l T
theorem reg_go {Post : Value → World → Prop} {Z : Cuts} {V V1 : World} {F z : Nat} {l : List (Nat × Value)} {T : Array Value} {c : Code} {kt : List Item} {cs : List Frame} (hf : ∃ fn,Try.prog.funcs[F]? = some fn) (hs : shut Try.prog Lone [] c = true)
   (K : ∀ T',Fg z l T' → To0 Try.prog Post Z V1 (G ((base F).at ⟨T',[]⟩ kt) cs)) (hC : ∀ τ,c.wp Try.prog (fun e a' w'=>match e with | .normal=>(norm w' = V1 ∧ Fg z l a'.tmps) ∧ a'.defers = [] | _=>False) ⟨T,[]⟩ (re V τ 0)) : To0 Try.prog Post Z V (G ((base F).at ⟨T,[]⟩ (.code c :: kt)) cs) :=
 To0.walk (will_code (L:=Lone) (R:=fun aa V'=>V' = V1 ∧ Fg z l aa.tmps) calm rfl hf rfl hs hC fun a' V' ⟨q0,gs⟩ ha'=>Will.stop (by
   obtain ⟨T',df⟩:=a'
   simp only at ha' gs
   subst ha' q0
   exact K T' gs))
theorem reg_gb {Post : Value → World → Prop} {Z : Cuts} {V V1 : World} {F z j : Nat} {x : Bool} {l : List (Nat × Value)} {T : Array Value} {c : Code} {kt : List Item} {cs : List Frame} (hf : ∃ fn,Try.prog.funcs[F]? = some fn) (hs : shut Try.prog Lone [] c = true)
   (K : ∀ T',Fg z l T' → T'[j]? = some (.bool x) → To0 Try.prog Post Z V1 (G ((base F).at ⟨T',[]⟩ kt) cs)) (hC : ∀ τ,c.wp Try.prog (fun e a' w'=>match e with | .normal=>(norm w' = V1 ∧ Fg z l a'.tmps ∧ a'.tmps[j]? = some (.bool x)) ∧ a'.defers = [] | _=>False) ⟨T,[]⟩ (re V τ 0)) : To0 Try.prog Post Z V (G ((base F).at ⟨T,[]⟩ (.code c :: kt)) cs) :=
 To0.walk (will_code (L:=Lone) (R:=fun aa V'=>V' = V1 ∧ Fg z l aa.tmps ∧ aa.tmps[j]? = some (.bool x)) calm rfl hf rfl hs hC fun a' V' ⟨q0,gs,gb⟩ ha'=>Will.stop (by
   obtain ⟨T',df⟩:=a'
   simp only at ha' gs gb
   subst ha' q0
   exact K T' gs gb))
end Go.Proofs.Ytibcdikfbhmheaa
