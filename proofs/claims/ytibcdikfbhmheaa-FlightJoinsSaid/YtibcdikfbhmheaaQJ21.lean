import Derived.Test.YtibcdikfbhmheaaB17
import Derived.Test.YtibcdikfbhmheaaQJ20
import Derived.Deep.Slices
import Derived.SizedLaws
set_option linter.unusedSimpArgs false
set_option linter.unusedVariables false
set_option maxRecDepth 100000
namespace Go.Proofs.Ytibcdikfbhmheaa
open Go Go.Conc Go.Proofs Go.ChangeShapes Go.WideShapes Go.ChangeAt Go.RowKit
theorem addr_addK (b off k : Nat) : (⟨b,off,none⟩ : Addr).add k = ⟨b,off + k,none⟩:=by
 unfold Addr.add
 split
 . rename_i h; rw [h]; rfl
 . rfl
section
variable {H : Type} {enc : TypeId × Value -> H} {W : World}
theorem open_keys1 {v : Value} {fuel : Nat} {x : DataW H × List MemPlace} (h : DataW.trod enc Try.prog W 0 (fun _=>true) true fuel 143 [v] = some x) :
   ∃ y : List (Int × Int) × Option Addr × Nat,v = .slice y.2.1 y.1.length y.2.2 /\ KyI (vw W) y.2.1 y.1:=by
 rcases Go.Deep.open_slice Try.underlying143 h with ⟨hcs,_⟩ | ⟨a,len,cap,m,n,D,Pl,hcs,_,hl,hm,hmm,hx,hi⟩
 . obtain rfl : v = .slice none 0 0:=by simpa using hcs
   exact ⟨([],none,0),rfl,fun h=>absurd h (by simp)⟩
 . obtain rfl : v = .slice (some a) len cap:=by simpa using hcs
   simp only [if_true] at hmm
   subst hmm
   have ce : Try.prog.cellsOf 139 = 2:=by kernel_rfl
   have hcell : ∀ i,i < len -> ∃ z : Int × Int,W.cell? (a.add (i * 2)) = some (.int .i64 z.1) /\ W.cell? (a.add (i * 2 + 1)) = some (.int .i64 z.2):=fun i hil=>by
     obtain ⟨cs',h1,h2⟩:=hi i (by omega)
     rw [ce] at h1
     obtain ⟨_,hlen,hcell⟩:=World.cells?_some h1
     obtain ⟨xs,k,hk,hxy,_,hxl,hfl⟩:=DataW.trod_struct Try.underlying139 h2
     match xs,hxl,cs',hlen with
     | [y0,y1],_,[v0,v1],_ =>
       have c3 : Try.prog.cellsOf 3 = 1:=by kernel_rfl
       have g0:=hfl 0 _ rfl
       have g1:=hfl 1 _ rfl
       simp [c3] at g0 g1
       obtain ⟨x0,e0,_,w0⟩:=DataW.trod_int Try.underlying3 g0
       obtain ⟨x1,e1,_,w1⟩:=DataW.trod_int Try.underlying3 g1
       simp at e0 e1
       subst e0 e1
       have d0:=hcell 0 (by decide)
       have d1:=hcell 1 (by decide)
       rw [Go.Deep.add_add] at d0 d1
       exact ⟨(x0,x1),by simpa using d0,by simpa using d1⟩
   obtain ⟨z,hz⟩:=Go.Deep.choose_lt hcell
   have hL : ((List.range len).map z).length = len:=by simp
   refine ⟨((List.range len).map z,some a,m),by show _ = Value.slice (some a) ((List.range len).map z).length m; rw [hL],fun h0=>?_⟩
   replace h0 : 0 < ((List.range len).map z).length:=h0
   rw [hL] at h0
   have h1:=(hz 0 h0).1
   have hs : (a.add (0 * 2)).spot = none:=cell_row h1
   rw [Nat.zero_mul] at hs h1
   have ha0 : a.add 0 = a:=by simp [Addr.add]
   rw [ha0] at hs h1
   obtain ⟨b,off,spot⟩:=a
   obtain rfl : spot = none:=hs
   refine ⟨b,off,rfl,by rw [vw_size]; exact cell_lt h1,fun j hj=>?_⟩
   replace hj : j < ((List.range len).map z).length:=hj
   have hj' : j < len:=by rw [hL] at hj; exact hj
   obtain ⟨g0,g1⟩:=hz j hj'
   rw [addr_addK] at g0 g1
   have ez : kat ((List.range len).map z) j = z j:=by
     unfold kat
     rw [List.getElem?_eq_getElem hj]
     simp
   show (vw W).cell? ⟨b,off + j * 2,none⟩ = some (.int .i64 (kat ((List.range len).map z) j).1) /\ (vw W).cell? ⟨b,off + j * 2 + 1,none⟩ = some (.int .i64 (kat ((List.range len).map z) j).2)
   rw [ez]
   exact ⟨vw_cell g0,vw_cell (by rw [Nat.add_assoc]; exact g1)⟩
theorem open_keys {v : Value} {d : DataW H} {ps : List MemPlace} {r : Reach} {b0 : Nat} (hval : Value.okWide Try.prog W r b0 143 v) (h : DataW.Trod enc Try.prog W 0 (fun _=>true) true 143 v d ps) :
   ∃ (ka : Option Addr) (ks : List (Int × Int)) (kc : Nat),v = .slice ka ks.length kc /\ KyI (vw W) ka ks:=by
 obtain ⟨a0,len,cap,rfl⟩:=okWide_slice Try.underlying143 hval
 obtain ⟨fuel,hf⟩:=h
 obtain ⟨⟨ks,ka,kc⟩,h1,h2⟩:=open_keys1 (v:=.slice a0 len cap) hf
 exact ⟨ka,ks,kc,h1,h2⟩
end
end Go.Proofs.Ytibcdikfbhmheaa
