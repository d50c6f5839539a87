import Derived.Test.YtibcdikfbhmheaaB17
import Derived.Test.YtibcdikfbhmheaaQT08
import Derived.Deep.Slices
import Derived.SizedLaws
set_option linter.unusedSimpArgs false
set_option linter.unusedVariables false
set_option maxRecDepth 100000
namespace Go.Proofs.Ytibcdikfbhmheaa
open Go Go.Conc Go.Proofs Go.ChangeShapes Go.WideShapes Go.ChangeAt Go.RowKit
set_option linter.unusedVariables false
theorem addr_addT (b off k : Nat) : (⟨b,off,none⟩ : Addr).add k = ⟨b,off + k,none⟩:=by
 unfold Addr.add
 split
 · rename_i h; rw [h]; rfl
 · rfl
section
variable {H : Type} {enc : TypeId × Value → H} {W : World}
theorem open_act3 {v : Value} {fuel : Nat} {x : DataW H × List MemPlace} (h : DataW.trod enc Try.prog W 0 (fun _=>true) true fuel 55 [v] = some x) :
   ∃ y : List (Int × Int × Int) × Option Addr × Nat,v = .slice y.2.1 y.1.length y.2.2 ∧ (0 < y.1.length → ∃ g o,y.2.1 = some ⟨g,o,none⟩ ∧ g < (vw W).heap.size ∧ ∀ j (hj : j < y.1.length),(vw W).cell? ⟨g,o + j * 3,none⟩ = some (.int .i64 (y.1[j]'hj).1) ∧ (vw W).cell? ⟨g,o + j * 3 + 1,none⟩ = some (.int .i64 (y.1[j]'hj).2.1) ∧ (vw W).cell? ⟨g,o + j * 3 + 2,none⟩ = some (.int .i64 (y.1[j]'hj).2.2)):=by
 rcases Go.Deep.open_slice Try.underlying55 h with ⟨hcs,_⟩ | ⟨a,len,cap,m,n,D,Pl,hcs,_,hl,hm,hmm,hx,hi⟩
 · obtain rfl : v = .slice none 0 0:=by simpa using hcs
   exact ⟨([],none,0),rfl,fun h=>absurd h (by simp)⟩
 · obtain rfl : v = .slice (some a) len cap:=by simpa using hcs
   simp only [if_true] at hmm
   subst hmm
   have ce : Try.prog.cellsOf 57 = 3:=by kernel_rfl
   have hcell : ∀ i,i < len → ∃ z : Int × Int × Int,W.cell? (a.add (i * 3)) = some (.int .i64 z.1) ∧ W.cell? (a.add (i * 3 + 1)) = some (.int .i64 z.2.1) ∧ W.cell? (a.add (i * 3 + 2)) = some (.int .i64 z.2.2):=fun i hil=>by
     obtain ⟨cs',h1,h2⟩:=hi i (by omega)
     rw [ce] at h1
     obtain ⟨_,hlen,hcell⟩:=World.cells?_some h1
     obtain ⟨xs,k,hk,hxy,_,hxl,hfl⟩:=DataW.trod_struct Try.underlying57 h2
     match xs,hxl,cs',hlen with
     | [y0,y1,y2],_,[v0,v1,v2],_ =>
       have c3 : Try.prog.cellsOf 3 = 1:=by kernel_rfl
       have g0:=hfl 0 _ rfl
       have g1:=hfl 1 _ rfl
       have g2:=hfl 2 _ rfl
       simp [c3] at g0 g1 g2
       obtain ⟨x0,e0,_,w0⟩:=DataW.trod_int Try.underlying3 g0
       obtain ⟨x1,e1,_,w1⟩:=DataW.trod_int Try.underlying3 g1
       obtain ⟨x2,e2,_,w2⟩:=DataW.trod_int Try.underlying3 g2
       simp at e0 e1 e2
       subst e0 e1 e2
       have d0:=hcell 0 (by decide)
       have d1:=hcell 1 (by decide)
       have d2:=hcell 2 (by decide)
       rw [Go.Deep.add_add] at d0 d1 d2
       exact ⟨(x0,x1,x2),by simpa using d0,by simpa using d1,by simpa using d2⟩
   obtain ⟨z,hz⟩:=Go.Deep.choose_lt hcell
   have hL : ((List.range len).map z).length = len:=by simp
   refine ⟨((List.range len).map z,some a,m),by show _ = Value.slice (some a) ((List.range len).map z).length m; rw [hL],fun h0=>?_⟩
   replace h0 : 0 < ((List.range len).map z).length:=h0
   rw [hL] at h0
   have h1:=(hz 0 h0).1
   have hs : (a.add (0 * 3)).spot = none:=cell_row h1
   rw [Nat.zero_mul] at hs h1
   have ha0 : a.add 0 = a:=by simp [Addr.add]
   rw [ha0] at hs h1
   obtain ⟨b,off,spot⟩:=a
   obtain rfl : spot = none:=hs
   refine ⟨b,off,rfl,by rw [vw_size]; exact cell_lt h1,fun j hj=>?_⟩
   replace hj : j < ((List.range len).map z).length:=hj
   have hj' : j < len:=by rw [hL] at hj; exact hj
   obtain ⟨g0,g1,g2⟩:=hz j hj'
   rw [addr_addT] at g0 g1 g2
   have ez : (((List.range len).map z)[j]'hj) = z j:=by simp
   show (vw W).cell? ⟨b,off + j * 3,none⟩ = some (.int .i64 (((List.range len).map z)[j]'hj).1) ∧ (vw W).cell? ⟨b,off + j * 3 + 1,none⟩ = some (.int .i64 (((List.range len).map z)[j]'hj).2.1) ∧ (vw W).cell? ⟨b,off + j * 3 + 2,none⟩ = some (.int .i64 (((List.range len).map z)[j]'hj).2.2)
   rw [ez]
   exact ⟨vw_cell g0,vw_cell (by rw [Nat.add_assoc]; exact g1),vw_cell (by rw [Nat.add_assoc]; exact g2)⟩
theorem open_acts3 {v : Value} {d : DataW H} {ps : List MemPlace} {r : Reach} {b0 : Nat} (hval : Value.okWide Try.prog W r b0 54 v) (h : DataW.Trod enc Try.prog W 0 (fun _=>true) true 54 v d ps) :
   ∃ (la : Option Addr) (n lc : Nat) (acts : Nat → List (Int × Int × Int)) (ra : Nat → Option Addr) (rc : Nat → Nat),v = .slice la n lc ∧ Rw3 (vw W) la n acts ra rc:=by
 obtain ⟨a0,len,cap,rfl⟩:=okWide_slice Try.underlying54 hval
 obtain ⟨fuel,hf⟩:=h
 rcases Go.Deep.open_slice1 Try.underlying54 (by kernel_rfl) hf with ⟨hcs,_⟩ | ⟨a,len',cap',m,n,V,D,Pl,hcs,_,hl,_,hm,hx,hc⟩
 · simp [Value.cells] at hcs
   obtain ⟨rfl,rfl,rfl⟩:=hcs
   exact ⟨none,0,0,fun _=>[],fun _=>none,fun _=>0,rfl,⟨fun h=>absurd h (by omega),fun i hi=>absurd hi (by omega)⟩⟩
 · simp [Value.cells] at hcs
   obtain ⟨rfl,rfl,rfl⟩:=hcs
   simp only [if_true] at hm
   obtain ⟨y,hy⟩:=Go.Deep.choose_lt fun i (hi : i < len)=>open_act3 (hc i (by omega)).2
   refine ⟨some a,len,cap,fun i=>(y i).1,fun i=>(y i).2.1,fun i=>(y i).2.2,rfl,⟨fun h0=>?_,fun i hi h0=>(hy i hi).2 h0⟩⟩
   have h1:=(hc 0 (by omega)).1
   have ha0 : a.add 0 = a:=by simp [Addr.add]
   rw [ha0] at h1
   have hs:=cell_row h1
   obtain ⟨b,off,spot⟩:=a
   obtain rfl : spot = none:=hs
   refine ⟨b,off,rfl,by rw [vw_size]; exact cell_lt h1,fun j hj=>?_⟩
   have g0:=(hc j (by omega)).1
   rw [addr_addT] at g0
   rw [vw_cell g0,(hy j hj).1]
end
end Go.Proofs.Ytibcdikfbhmheaa
