/- A call (api.Op): its 19 cells, and what they read as. -/
import Derived.Test.YtplaicdbcfnjbaaV04
set_option linter.unusedSimpArgs false
set_option linter.unusedVariables false
namespace Go.Proofs.Ytplaicdbcfnjbaa
open Go.RowKit
set_option linter.unusedVariables false

structure OD where
  r0 : Int
  r1 : Int
  kd : Int
  k0 : Int
  k1 : Int
  tx : ByteArray
  o0 : Int
  o1 : Int
  nx : Nat
  x : Nat → Nat
  X : Option Addr
  cx : Nat
  td : TD
  A : Option Addr
  ca : Nat
  Y : Option Addr
  cy : Nat
  s : Int
  e : Int
def ocs (o : OD) : Array Value := #[.int .i64 o.r0, .int .i64 o.r1, .int .i64 o.kd, .int .i64 o.k0, .int .i64 o.k1, .string o.tx, .int .i64 o.o0, .int .i64 o.o1, .slice o.X o.nx o.cx,
  .int .i64 o.td.e, .int .i64 o.td.d.k, .int .i64 o.td.d.n, .slice o.A o.td.d.kids.length o.ca, .int .i64 o.td.n, .int .i64 o.td.l, .string o.td.t, .slice o.Y o.td.ny o.cy, .int .i64 o.s, .int .i64 o.e]
def acs (o : OD) : Array Value := #[.int .i64 o.kd, .int .i64 o.k0, .int .i64 o.k1, .string o.tx, .int .i64 o.o0, .int .i64 o.o1, .slice o.X o.nx o.cx]
theorem ocs_op (o : OD) : IsOp (ocs o) := ⟨rfl, by simp [ocs, Value.oneCell']⟩
structure IsO (w : World) (f : Nat) (o : OD) : Prop where
  t : IsT w f o.td o.A o.ca o.Y o.cy
  x : ReadsF w .u64 o.X o.nx o.x
theorem IsO.new {w w' : World} {f : Nat} {o : OD} (h : IsO w f o) (n : New w w') : IsO w' f o := ⟨h.t.new n, h.x.new n⟩
def eq2 (a b c d : Int) : Bool := (a == c) && (b == d)
def oneO (f : Nat) (a b : OD) : Bool := eq2 a.r0 a.r1 b.r0 b.r1 && (a.s == b.s) && (a.e == b.e) && (a.kd == b.kd) && eq2 a.k0 a.k1 b.k0 b.k1 && (a.tx.toList == b.tx.toList) && eq2 a.o0 a.o1 b.o0 b.o1 && eqR a.nx b.nx a.x b.x && alikeT f a.td b.td
theorem eql23 (a b c d : Int) (w : World) : (binOp .eql 23 (.agg #[.int .i64 a, .int .i64 b]) (.agg #[.int .i64 c, .int .i64 d])).run Try.prog w = .ok (.bool (eq2 a b c d)) w := by
  unfold eq2
  by_cases h1 : a = c
  · subst h1
    by_cases h2 : b = d
    · subst h2; go_simp
    · go_simp
  · go_simp
theorem eql25 (a b c d : Int) (w : World) : (binOp .eql 25 (.agg #[.int .i64 a, .int .i64 b]) (.agg #[.int .i64 c, .int .i64 d])).run Try.prog w = .ok (.bool (eq2 a b c d)) w := by
  unfold eq2
  by_cases h1 : a = c
  · subst h1
    by_cases h2 : b = d
    · subst h2; go_simp
    · go_simp
  · go_simp
/-- a load whose run is known -/
theorem wpl_ld {ops : Array Oper} {rest : List Oper} {o : Oper} {a : Act} {w : World} {Q : Exit → Act → World → Prop} {t : TypeId} {x : Operand} {p : Addr} {v : Value}
    (ho : o.op = .load t x) (hx : a.eval x = .pointer (some p)) (h : (Instr.loadAt t (.pointer (some p))).run Try.prog w = .ok v w) (hw : Region.wanted o (yielded ops a.tmps) = true) (hk : wpList Try.prog ops Q rest (a.put o.dst v) w) : wpList Try.prog ops Q (o :: rest) a w :=
  wpList_step fun K hK => by
    rw [if_pos hw]
    unfold Oper.wp execOp
    simp only [ho, hx, Sem.run_bind, Sem.run_pure, Result.andThen_ok, h]
    exact hK _ _ hk
/-- the result's 8 cells in a call's row -/
theorem lda_told {w : World} {g : Nat} {o : OD} (h : Box w g 36 (ocs o)) : (Instr.loadAt 34 (.pointer (some ⟨g, 9, none⟩))).run Try.prog w = .ok (.agg (tcs o.td o.A o.ca o.Y o.cy)) w := by
  refine run_loadAt_mid w g 9 34 (tcs o.td o.A o.ca o.Y o.cy).toList _ (fun j v hj => ?_) Try.underlying34 rfl (by kernel_rfl)
  have hj8 : j < 8 := (List.getElem?_eq_some_iff.1 hj).1
  refine (h.cell (9 + j)).trans ?_
  rw [← hj]
  match j, hj8 with
  | 0, _ => rfl
  | 1, _ => rfl
  | 2, _ => rfl
  | 3, _ => rfl
  | 4, _ => rfl
  | 5, _ => rfl
  | 6, _ => rfl
  | 7, _ => rfl
theorem lda_two {w : World} {g i : Nat} {c : Array Value} {x y : Int} {t : TypeId} {d : TypeDesc} (h : Box w g 36 c) (h0 : c[i]? = some (.int .i64 x)) (h1 : c[i + 1]? = some (.int .i64 y))
    (hu : Try.prog.underlying t = some d) (hd : d.isRow = true) (hs : (Try.prog.info? t).map (·.size) = some 2) : (Instr.loadAt t (.pointer (some ⟨g, i, none⟩))).run Try.prog w = .ok (.agg #[.int .i64 x, .int .i64 y]) w := by
  refine run_loadAt_mid w g i t [.int .i64 x, .int .i64 y] _ (fun j v hj => ?_) hu hd hs
  have hj8 : j < 2 := (List.getElem?_eq_some_iff.1 hj).1
  rw [← hj]
  match j, hj8 with
  | 0, _ => exact (h.cell (i + 0)).trans h0
  | 1, _ => exact (h.cell (i + 1)).trans h1
/-- the question's 7 cells in a call's row -/
theorem lda_ask {w : World} {g : Nat} {o : OD} (h : Box w g 36 (ocs o)) : (Instr.loadAt 28 (.pointer (some ⟨g, 2, none⟩))).run Try.prog w = .ok (.agg (acs o)) w := by
  refine run_loadAt_mid w g 2 28 (acs o).toList _ (fun j v hj => ?_) Try.underlying28 rfl (by kernel_rfl)
  have hj8 : j < 7 := (List.getElem?_eq_some_iff.1 hj).1
  refine (h.cell (2 + j)).trans ?_
  rw [← hj]
  match j, hj8 with
  | 0, _ => rfl
  | 1, _ => rfl
  | 2, _ => rfl
  | 3, _ => rfl
  | 4, _ => rfl
  | 5, _ => rfl
  | 6, _ => rfl
end Go.Proofs.Ytplaicdbcfnjbaa
