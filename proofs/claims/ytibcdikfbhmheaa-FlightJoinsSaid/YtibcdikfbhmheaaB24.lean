import Derived.Test.YtibcdikfbhmheaaB23
import Derived.Test.YtibcdikfbhmheaaB22
set_option linter.unusedSimpArgs false
set_option linter.unusedVariables false
namespace Go.Proofs.Ytibcdikfbhmheaa
open Go Go.Conc Go.Proofs
theorem own_lit {V : World} {e : TypeId} {sz b m : Nat} {cs : Array Value} (h : V.heap[b]? = some (.cells cs e (0,0))) (hm : cs.size = m * sz) (hx : m < 1000) : V.ownsRow 0 e sz (.slice (some ⟨b,0,none⟩) m m) m cs.toList :=
 ⟨by simpa using hm,.inr ⟨b,m,cs,rfl,Nat.zero_le _,h,Nat.le_refl _,by simp only [maxLen]; omega,hm,by rw [← hm,← Array.length_toList,List.take_length]⟩⟩
section
variable {C : Cw} {main : Bool} {Z : Cuts} {Stop : Goroutine -> World -> Prop} {V : World} {st : Nat -> Int} {i mb lg : Nat} {c : Frame} {cs : List Frame} {bQ : Frame} {aQ : Act} {opsQ : Array Oper} {iQ : Nat} {restQ : List Nat} {kQ : List Item}
end
namespace Ls
section
variable {n i : Nat} {y : Nat -> Nat} {s : Ls}
end
end Ls
def y1 : Nat -> Nat:=fun _=>1
structure TwL (n mb lg : Nat) (s : Ls) (own : Nat -> Prop) (V : World) (qv lv : Value) : Prop where
 mu : MuI V own mb 0 s.ow s.q qv
 lgc : V.heap[lg]? = some (.cells #[lv] 23 (0,0))
 row : V.ownsRow 0 3 1 lv s.fin.length (ints s.fin)
 lown : ∀ b,lv.ownBlock = some b -> own b
 sep : ∀ b,qv.ownBlock = some b -> lv.ownBlock ≠ some b
 lm : lv.ownBlock ≠ some mb
 ql : qv.ownBlock ≠ some lg
 lo : own lg
 ne : mb ≠ lg
section
variable {C : Cw} {main : Bool} {Z : Cuts} {Stop : Goroutine -> World -> Prop} {V : World} {st : Nat -> Int} {i mb lg : Nat} {c : Frame} {cs : List Frame} {bQ : Frame} {aQ : Act} {opsQ : Array Oper} {iQ : Nat} {restQ : List Nat} {kQ : List Item}
end
theorem uf_lky {mb mo : Nat} {tp : Value} {f : Frame} (h : LkY mb mo tp f) : UF f:=by
 obtain ⟨T,_,_,_,rfl⟩:=h
 exact uf_at rfl rfl rfl ⟨_,Try.func45⟩
theorem uf_rsp {mb mo : Nat} {tp : Value} {f : Frame} (h : RsP mb mo tp f) : UF f:=by
 obtain ⟨T,_,_,_,rfl⟩:=h
 exact uf_at rfl rfl rfl ⟨_,Try.func92⟩
section
variable {C : Cw} {E : Env} {V : World} {i mb lg : Nat} {own : Nat -> Prop} {s : Ls} {aY : Act} {opsY : Array Oper} {iY : Nat} {restY : List Nat} {kY : List Item} {qv lv : Value}
theorem TwL.has (L : TwL C.n mb lg s own V qv lv) (hown : ∀ b,own b -> b < V.heap.size /\ b ≠ C.cb /\ ∀ j,j < C.n -> b ≠ C.tb j) (hlb : ∀ b,own b -> b ≠ C.lb) : ∀ b,own b -> ¬ C.has b:=fun b hb h=>by
 rcases h with h | h | ⟨j,hj,h⟩
 . exact (hown b hb).2.1 h
 . exact hlb b hb h
 . exact (hown b hb).2.2 j hj h
end
namespace Ls
def stp (y : Nat -> Nat) (x : Ls × List Nat) (i : Nat) : Ls × List Nat:=if st y x.1 i = 0 ∨ st y x.1 i = 1 then (go y x.1 i,x.2 ++ [i]) else x
def pk (n : Nat) (y : Nat -> Nat) (x : Ls × List Nat) (p : Int) : Ls × List Nat:=if n = 0 then x else stp y x (pidx n p)
def rnd (n : Nat) (y : Nat -> Nat) (x : Ls × List Nat) : Ls × List Nat:=(List.range n).foldl (stp y) x
def rnds (n : Nat) (y : Nat -> Nat) : Nat -> Ls × List Nat -> Ls × List Nat
 | 0,x=>x
 | m + 1,x=>if (rnd n y x).2.length = x.2.length then rnd n y x else rnds n y m (rnd n y x)
def run (n : Nat) (y : Nat -> Nat) (R : Nat) (ps : List Int) : Ls × List Nat:=rnds n y R (ps.foldl (pk n y) (zero,[]))
section
variable {n : Nat} {y : Nat -> Nat} {inv : Ls -> (Nat -> Prop) -> World -> Prop} {loc : Ls -> Nat -> List Frame -> Prop} {fid : Nat -> FuncId} {caps : Nat -> Array Value}
end
end Ls
namespace Ls
section
variable {n i : Nat} {y : Nat -> Nat} {s : Ls}
end
end Ls
end Go.Proofs.Ytibcdikfbhmheaa
