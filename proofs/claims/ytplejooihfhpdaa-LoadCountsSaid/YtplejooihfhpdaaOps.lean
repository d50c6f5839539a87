/- A row of calls that came in: what is read of each; the reference's Told; Hits. -/
import Derived.Test.YtplejooihfhpdaaOpr
import Derived.Test.YtplejooihfhpdaaSum
namespace Go.Proofs.Ytplejooihfhpdaa
open Go.RowKit
set_option linter.unusedVariables false

/-- what is read of a call: whose it is, its kind, what it told, when it began and ended -/
structure Nm where
  who : Int
  kd : Int
  er : Int
  fr : Int
  to : Int
def Nm.ok (z : Nm) : Prop := i64 z.who ∧ i64 z.kd ∧ i64 z.er ∧ i64 z.fr ∧ i64 z.to
def Reads5 (o : Array Value) (z : Nm) : Prop := IsOp o ∧ z.ok ∧ o[0]? = some (.int .i64 z.who) ∧ o[2]? = some (.int .i64 z.kd) ∧ o[9]? = some (.int .i64 z.er) ∧ o[17]? = some (.int .i64 z.fr) ∧ o[18]? = some (.int .i64 z.to)
/-- a slice of n calls -/
def Ops (w : World) (A : Option Addr) (n : Nat) (o : Nat → Array Value) (z : Nat → Nm) : Prop :=
  (∀ i, i < n → Reads5 (o i) (z i)) ∧ (0 < n → ∃ ad : Addr, A = some ad ∧ ∀ i, i < n → OpAt w (ad.add (i * 19)) (o i))
theorem Ops.new {w w' : World} {A : Option Addr} {n : Nat} {o : Nat → Array Value} {z : Nat → Nm} (h : Ops w A n o z) (m : New w w') : Ops w' A n o z := by
  refine ⟨h.1, fun h0 => ?_⟩
  obtain ⟨ad, e, hc⟩ := h.2 h0
  exact ⟨ad, e, fun i hi => (hc i hi).new m⟩
theorem Ops.less {w : World} {A : Option Addr} {n m : Nat} {o : Nat → Array Value} {z : Nat → Nm} (h : Ops w A n o z) (hm : m ≤ n) : Ops w A m o z :=
  ⟨fun i hi => h.1 i (by omega), fun h0 => by
    obtain ⟨ad, e, hc⟩ := h.2 (by omega)
    exact ⟨ad, e, fun i hi => hc i (by omega)⟩⟩
theorem OpAt.field {w : World} {p : Addr} {o : Array Value} (h : OpAt w p o) (j : Nat) {v : Value} (hj : j ≠ 0) (hv : o[j]? = some v) : w.cell? ⟨p.block, p.off + j, none⟩ = some v := by
  have := h.2.2 j v hv
  unfold Addr.add at this
  rwa [if_neg hj] at this

/-- how many of the first n that have ended told e -/
def told (z : Nat → Nm) (e : Int) : Nat → Nat
  | 0 => 0
  | n + 1 => told z e n + if (z n).to ≠ -1 ∧ (z n).er = e then 1 else 0
theorem told_le (z : Nat → Nm) (e : Int) : ∀ n, told z e n ≤ n
  | 0 => Nat.le_refl _
  | n + 1 => by have := told_le z e n; unfold told; split <;> omega

set_option maxHeartbeats 1000000 in
theorem told_any (A : Option Addr) (n cap : Nat) (o : Nat → Array Value) (z : Nat → Nm) (e : Int) (hn : n ≤ 60) (w : World) (hL : Ops w A n o z) :
    Calls Try.prog 9 #[.slice A n cap, .int .i64 e] w fun x w' => x = .returned (.int .i64 (told z e n)) ∧ New w w' := by
  go_enter Try.func9, Try.ntmps9
  go_wp2_with fail
  go_loopg [5, 6] n (fun g s i wr => ∃ k : Nat, k + g = n ∧ i = .int .i64 k ∧ s = .int .i64 (told z e k : Nat) ∧ wr = w)
  case atStart => exact ⟨0, by omega, rfl, rfl, rfl⟩
  case round =>
    obtain ⟨k, hk, rfl, rfl, rfl⟩ := hrel
    by_cases hlt : k < n
    · obtain ⟨ad, rfl, hc⟩ := hL.2 (by omega)
      have hr := hL.1 k hlt
      have c9 := (hc k hlt).field 9 (by decide) hr.2.2.2.2.1
      have c18 := (hc k hlt).field 18 (by decide) hr.2.2.2.2.2.2
      have hs : told z e (k + 1) = told z e k + if (z k).to ≠ -1 ∧ (z k).er = e then 1 else 0 := rfl
      have hb := told_le z e k
      have HL := Lib.hid (⟨hL, hc, hr⟩ : _ ∧ _ ∧ _)
      clear hL hc hr
      by_cases h1 : (z k).to = -1
      · have hs' : told z e (k + 1) = told z e k := by rw [hs, if_neg (fun h => h.1 h1)]; rfl
        have HS := Lib.hid hs'
        have t1 : (((z k).to) != -1) = false := by simpa using h1
        clear hs hs' h1
        generalize (z k).to = t at *
        generalize (z k).er = r at *
        generalize told z e k = q at *
        go_wp2_with fail
        go_roundg (gk - 1)
        case rel => exact ⟨k + 1, by omega, by go_num, by rw [HS.out], rfl⟩
        case measure => omega
      · have t1 : (((z k).to) != -1) = true := by simpa using h1
        by_cases h2 : (z k).er = e
        · have hs' : told z e (k + 1) = told z e k + 1 := by rw [hs, if_pos ⟨h1, h2⟩]
          have HS := Lib.hid hs'
          have t2 : (((z k).er) == e) = true := by simpa using h2
          clear hs hs' h1 h2
          generalize (z k).to = t at *
          generalize (z k).er = r at *
          generalize told z e k = q at *
          go_wp2_with fail
          go_roundg (gk - 1)
          case rel => exact ⟨k + 1, by omega, by go_num, by rw [HS.out]; go_num, rfl⟩
          case measure => omega
        · have hs' : told z e (k + 1) = told z e k := by rw [hs, if_neg (fun h => h2 h.2)]; rfl
          have HS := Lib.hid hs'
          have t2 : (((z k).er) == e) = false := by simpa using h2
          clear hs hs' h1 h2
          generalize (z k).to = t at *
          generalize (z k).er = r at *
          generalize told z e k = q at *
          go_wp2_with fail
          go_roundg (gk - 1)
          case rel => exact ⟨k + 1, by omega, by go_num, by rw [HS.out], rfl⟩
          case measure => omega
    · have hke : k = n := by omega
      subst hke
      clear hL
      go_wp2_with fail
      go_ret
      exact ⟨rfl, New.refl _⟩
end Go.Proofs.Ytplejooihfhpdaa
