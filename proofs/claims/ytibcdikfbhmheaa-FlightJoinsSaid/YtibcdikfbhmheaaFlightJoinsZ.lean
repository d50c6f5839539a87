/- FlightJoins holds at every input: the step from the walk of the whole machine to the given statement. -/
import Derived.Test.YtibcdikfbhmheaaRows
import Derived.Test.YtibcdikfbhmheaaQJ21
import Derived.WalkKit
import Derived.OpenShut
import Derived.Conc.LeavingOf
namespace Go.Proofs.Ytibcdikfbhmheaa.flightJoins
open Go Go.Conc Go.Proofs Go.ChangeShapes Go.WideShapes Go.ChangeAt Go.RowKit
set_option linter.unusedVariables false
theorem own : ownKnob Try.prog.godebug = none:=by kernel_rfl
set_option maxRecDepth 100000 in
theorem lifted (os : Os) (started : os.Started) (H : Type) (enc : TypeId × Value -> H) :
  ReturnsInLeavingWide {} Try.checked os 15 .any (Rows.flightJoinsSpec.pre6 enc Try.prog Try.f15 Rows.flightJoinsRow.domain false) (Rows.flightJoinsSpec.post enc Try.prog Try.f15 false true false false):=by
 refine returnsInLeavingWide_of_change_sized (C:=Try.checked) own started Try.func15
  (ChangeSpec.witness6 (enc:=enc) (C:=Try.checked) false ⟨#[],#[.slice none 0 0,.int .u8 0,.int .i64 0],[]⟩ 8 (by kernel_rfl) (by kernel_rfl) (by kernel_rfl) (by kernel_rfl)) ?_
 intro W base args ds gs before hval0 hW hcnd hwt _
 have hval : ∀ (j : Nat) t v,Try.f15.params[j]? = some t -> args[j]? = some v -> Value.okWide Try.prog W .any base t v:=hval0
 have hW':=hW
 obtain ⟨p,q,hA0,hV,hbefore,hfz,hnd⟩:=hW
 have hA : DataW.TrodAll enc Try.prog W 0 (fun _=>true) true Try.f15.params.toList args.toList ds p:=hA0
 rw [Try.params15] at hA hval
 obtain ⟨v0,vs0,d0,ds0,p0,q0,hargs,rfl,hp0,h0,r0⟩:=trodAll_cons hA
 obtain ⟨v1,vs1,d1,ds1,p1,q1,rfl,rfl,hp1,h1,r1⟩:=trodAll_cons r0
 obtain ⟨v2,vs2,d2,ds2,p2,q2,rfl,rfl,hp2,h2,r2⟩:=trodAll_cons r1
 obtain ⟨rfl,rfl,rfl⟩:=trodAll_nil r2
 obtain rfl : args = #[v0,v1,v2]:=by cases args; simp_all
 obtain ⟨rfl,rfl⟩:=trodVars_none hV
 obtain ⟨ka0,ks0,kc0,rfl,hk0⟩:=open_keys (hval 0 143 v0 rfl rfl) h0
 obtain ⟨a1,rfl,_,_,w1⟩:=open_int Try.underlying5 (hval 1 5 v1 rfl rfl) h1
 obtain ⟨n1,rfl⟩ : ∃ n : Nat,a1 = n:=⟨a1.toNat,by have:=lit_u8 w1; omega⟩
 have b1 : n1 < 256:=by have:=lit_u8 w1; omega
 obtain ⟨a2,rfl,_,_,w2⟩:=open_int Try.underlying3 (hval 2 3 v2 rfl rfl) h2
 clear hA0 hval0
 obtain ⟨M,last,o,w',t',e1,e2,e3,e4⟩:=ini (flight_joins (LS.start W) b1 hk0)
 refine ⟨M,last,o,w',t',e1,e2,e3,e4.mono fun v hv=>?_⟩
 obtain ⟨rfl,bel⟩:=below_of hv.1 hv.2
 exact law_post (by kernel_rfl) (by kernel_rfl) rfl Try.underlying4 rfl hW' rfl bel
theorem over : Rows.flightJoinsRow.holds Try.pinned (OpenSpec.ofChange Rows.flightJoinsSpec) :=
 OpenClaim.holds_of_wide_leaving 15 Try.f15 rfl rfl rfl rfl rfl rfl rfl ⟨rfl,rfl,rfl,rfl,rfl⟩ rfl rfl rfl rfl rfl (by kernel_rfl) Try.func15 (by kernel_rfl)
  (of_decide_eq_true (by kernel_rfl)) (by unfold Func.isWrapper; first | (rw [if_pos (by decide +kernel)]; kernel_rfl) | (rw [if_neg (by decide +kernel)]; exact ⟨rfl,rfl⟩))
  (fun os started H enc _=>lifted os started H enc)
theorem proved : Rows.FlightJoinsSaid:=over
#print axioms proved
end Go.Proofs.Ytibcdikfbhmheaa.flightJoins
