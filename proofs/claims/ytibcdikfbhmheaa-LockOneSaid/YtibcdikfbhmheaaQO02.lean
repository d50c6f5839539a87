/- duty's own functions: LockOne, whole. -/
import Derived.Test.YtibcdikfbhmheaaQO01
import Derived.Test.YtibcdikfbhmheaaB25
import Derived.Test.YtibcdikfbhmheaaB17
set_option linter.unusedSimpArgs false
set_option linter.unusedVariables false
namespace Go.Proofs.Ytibcdikfbhmheaa
open Go Go.Conc Go.Proofs
open Go.ConcN (sumTo upd sumTo_upd upd_ne upd_same)
set_option linter.unusedVariables false
set_option maxHeartbeats 1000000 in
theorem owner47 (mb mo : Nat) (ow : Nat) (w : World) (hw : ow < 1000) (ho : w.cell? ⟨mb, mo + 1, none⟩ = some (.int .i64 (ow : Int))) : Calls Try.prog 47 #[.pointer (some ⟨mb, mo, none⟩)] w fun e w' => e = .returned (.int .i64 ((ow : Int) - 1)) ∧ w' = w := by
  have h1 : IntKind.i64.wrap ((ow : Int) - 1) = (ow : Int) - 1 := by rw [IntKind.wrap_i64]; omega
  go_enter Try.func47, Try.ntmps47
  go_wp2
  go_ret
  exact ⟨rfl, rfl⟩
theorem kpat {V V' : World} (k : Kp V V') {b : Nat} {o : Obj} (h : V.heap[b]? = some o) : V'.heap[b]? = some o := (k.keep b (Array.getElem?_eq_some_iff.1 h).1).trans h
section
variable {W V : World} {Z : Cuts} {n yc pl pc : Nat} {ya pa : Option Addr} {ys : Nat → Nat} {ps : List Int}
set_option maxRecDepth 100000 in
set_option maxHeartbeats 4000000 in
theorem lock_one (L : LS W Z V) (hy : 0 < n → ∃ g o, ya = some ⟨g, o, none⟩ ∧ g < V.heap.size ∧ ∀ j, j < n → ∃ z : Nat, z < 256 ∧ z % 256 = ys j ∧ V.cell? ⟨g, o + j, none⟩ = some (.int .u8 (z : Int))) (hps : ps.length = pl) (hp : Pks V (fun _ => False) (.slice pa pl pc) ps) :
    To0 Try.prog (LPost W) Z V (G (Frame.enter Try.prog 10 #[.slice ya n yc, .slice pa pl pc] .normal) []) := by
  have hn := L.n
  rw [enter_at (P := Try.prog) _ Try.func10 rfl]
  simp only [Try.f10]
  walk_nrm
  by_cases h10 : 10 < n
  · have q1 : decide ((10 : Int) < (n : Int)) = true := decide_eq_true (by omega)
    clear hy hp
    obtain ⟨K, eK⟩ : ∃ K : Goroutine → Prop, K = fun g => To0 Try.prog (LPost W) Z V g := ⟨_, rfl⟩
    have hK : Mu Try.prog (fun _ => True) K := by rw [eK]; exact mu_to0
    have hV : MuV Try.prog Lone V K := by rw [eK]; exact muv_to0 hn
    have key : ∀ g, K g → (fun g => To0 Try.prog (LPost W) Z V g) g := fun g h => by rw [eK] at h; exact h
    have yek : ∀ g, (fun g => To0 Try.prog (LPost W) Z V g) g → K g := fun g h => by rw [eK]; exact h
    refine key _ ?_
    repeat (
      first
        | with_reducible refine mu_seq hK ?_
        | with_reducible refine mu_skip hK ?_
        | (with_reducible refine mu_region_end hK ?_; try subst hkk)
        | with_reducible refine mu_block hK ?_
        | with_reducible refine mu_inBlock hK ?_
        | with_reducible refine mu_ret hK ?_
        | with_reducible refine mu_end hK ?_
        | refine mu_exit hK rfl ?_
        | (with_reducible refine mu_regionH hK (fun kk hkk => ?_); simp only [List.size_toArray, List.length_cons, List.length_nil, Nat.reduceAdd, Nat.zero_add, List.range, List.range.loop])
        | (with_reducible refine mu_cond hK false ?_ ?_; (· first | (walk_nrm; done) | (simp [Act.eval]; done)); simp only [if_true, if_false, Bool.false_eq_true, ↓reduceIte])
        | (with_reducible refine mu_cond hK true ?_ ?_; (· first | (walk_nrm; done) | (simp [Act.eval]; done)); simp only [if_true, if_false, Bool.false_eq_true, ↓reduceIte])
        | (refine mu_unwanted hK rfl rfl ?_; walk_nrm)
        | (refine muv_val hV rfl (by first | exact .inl rfl | exact .inr rfl) rfl (by kernel_rfl) (fun J hJ => ?_); go_simp; with_reducible refine hJ _ ?_; clear hJ J; walk_nrm))
    refine mu_call hK rfl rfl (by decide) rfl Try.func43 (by kernel_rfl) rfl ?_
    rw [← enter_at (P := Try.prog) _ Try.func43 rfl]
    walk_nrm
    refine yek _ ?_
    clear hK hV key yek eK K
    refine live28_go L.n L.z fun Zq Vq hnq hzq hoq kq => ?_
    have Lq := L.next hnq hzq hoq kq
    walk_nrm
    obtain ⟨K, eK⟩ : ∃ K : Goroutine → Prop, K = fun g => To0 Try.prog (LPost W) Zq Vq g := ⟨_, rfl⟩
    have hK : Mu Try.prog (fun _ => True) K := by rw [eK]; exact mu_to0
    have hV : MuV Try.prog Lone Vq K := by rw [eK]; exact muv_to0 Lq.n
    have key : ∀ g, K g → (fun g => To0 Try.prog (LPost W) Zq Vq g) g := fun g h => by rw [eK] at h; exact h
    have yek : ∀ g, (fun g => To0 Try.prog (LPost W) Zq Vq g) g → K g := fun g h => by rw [eK]; exact h
    refine key _ ?_
    repeat (
      first
        | with_reducible refine mu_seq hK ?_
        | with_reducible refine mu_skip hK ?_
        | (with_reducible refine mu_region_end hK ?_; try subst hkk)
        | with_reducible refine mu_block hK ?_
        | with_reducible refine mu_inBlock hK ?_
        | with_reducible refine mu_ret hK ?_
        | with_reducible refine mu_end hK ?_
        | refine mu_exit hK rfl ?_
        | (with_reducible refine mu_regionH hK (fun kk hkk => ?_); simp only [List.size_toArray, List.length_cons, List.length_nil, Nat.reduceAdd, Nat.zero_add, List.range, List.range.loop])
        | (with_reducible refine mu_cond hK false ?_ ?_; (· first | (walk_nrm; done) | (simp [Act.eval]; done)); simp only [if_true, if_false, Bool.false_eq_true, ↓reduceIte])
        | (with_reducible refine mu_cond hK true ?_ ?_; (· first | (walk_nrm; done) | (simp [Act.eval]; done)); simp only [if_true, if_false, Bool.false_eq_true, ↓reduceIte])
        | (refine mu_unwanted hK rfl rfl ?_; walk_nrm)
        | (refine muv_val hV rfl (by first | exact .inl rfl | exact .inr rfl) rfl (by kernel_rfl) (fun J hJ => ?_); go_simp; with_reducible refine hJ _ ?_; clear hJ J; walk_nrm))
    refine yek _ ?_
    clear hK hV key yek eK K
    exact law_last (by kernel_rfl) rfl rfl Try.func10 rfl rfl Lq.o Lq.k
  have q1 : decide ((10 : Int) < (n : Int)) = false := decide_eq_false (by omega)
  by_cases h200 : 200 < pl
  · have q2 : decide ((200 : Int) < (pl : Int)) = true := decide_eq_true (by omega)
    clear hy hp
    obtain ⟨K, eK⟩ : ∃ K : Goroutine → Prop, K = fun g => To0 Try.prog (LPost W) Z V g := ⟨_, rfl⟩
    have hK : Mu Try.prog (fun _ => True) K := by rw [eK]; exact mu_to0
    have hV : MuV Try.prog Lone V K := by rw [eK]; exact muv_to0 hn
    have key : ∀ g, K g → (fun g => To0 Try.prog (LPost W) Z V g) g := fun g h => by rw [eK] at h; exact h
    have yek : ∀ g, (fun g => To0 Try.prog (LPost W) Z V g) g → K g := fun g h => by rw [eK]; exact h
    refine key _ ?_
    repeat (
      first
        | with_reducible refine mu_seq hK ?_
        | with_reducible refine mu_skip hK ?_
        | (with_reducible refine mu_region_end hK ?_; try subst hkk)
        | with_reducible refine mu_block hK ?_
        | with_reducible refine mu_inBlock hK ?_
        | with_reducible refine mu_ret hK ?_
        | with_reducible refine mu_end hK ?_
        | refine mu_exit hK rfl ?_
        | (with_reducible refine mu_regionH hK (fun kk hkk => ?_); simp only [List.size_toArray, List.length_cons, List.length_nil, Nat.reduceAdd, Nat.zero_add, List.range, List.range.loop])
        | (with_reducible refine mu_cond hK false ?_ ?_; (· first | (walk_nrm; done) | (simp [Act.eval]; done)); simp only [if_true, if_false, Bool.false_eq_true, ↓reduceIte])
        | (with_reducible refine mu_cond hK true ?_ ?_; (· first | (walk_nrm; done) | (simp [Act.eval]; done)); simp only [if_true, if_false, Bool.false_eq_true, ↓reduceIte])
        | (refine mu_unwanted hK rfl rfl ?_; walk_nrm)
        | (refine muv_val hV rfl (by first | exact .inl rfl | exact .inr rfl) rfl (by kernel_rfl) (fun J hJ => ?_); go_simp; with_reducible refine hJ _ ?_; clear hJ J; walk_nrm))
    refine mu_call hK rfl rfl (by decide) rfl Try.func43 (by kernel_rfl) rfl ?_
    rw [← enter_at (P := Try.prog) _ Try.func43 rfl]
    walk_nrm
    refine yek _ ?_
    clear hK hV key yek eK K
    refine live28_go L.n L.z fun Zq Vq hnq hzq hoq kq => ?_
    have Lq := L.next hnq hzq hoq kq
    walk_nrm
    obtain ⟨K, eK⟩ : ∃ K : Goroutine → Prop, K = fun g => To0 Try.prog (LPost W) Zq Vq g := ⟨_, rfl⟩
    have hK : Mu Try.prog (fun _ => True) K := by rw [eK]; exact mu_to0
    have hV : MuV Try.prog Lone Vq K := by rw [eK]; exact muv_to0 Lq.n
    have key : ∀ g, K g → (fun g => To0 Try.prog (LPost W) Zq Vq g) g := fun g h => by rw [eK] at h; exact h
    have yek : ∀ g, (fun g => To0 Try.prog (LPost W) Zq Vq g) g → K g := fun g h => by rw [eK]; exact h
    refine key _ ?_
    repeat (
      first
        | with_reducible refine mu_seq hK ?_
        | with_reducible refine mu_skip hK ?_
        | (with_reducible refine mu_region_end hK ?_; try subst hkk)
        | with_reducible refine mu_block hK ?_
        | with_reducible refine mu_inBlock hK ?_
        | with_reducible refine mu_ret hK ?_
        | with_reducible refine mu_end hK ?_
        | refine mu_exit hK rfl ?_
        | (with_reducible refine mu_regionH hK (fun kk hkk => ?_); simp only [List.size_toArray, List.length_cons, List.length_nil, Nat.reduceAdd, Nat.zero_add, List.range, List.range.loop])
        | (with_reducible refine mu_cond hK false ?_ ?_; (· first | (walk_nrm; done) | (simp [Act.eval]; done)); simp only [if_true, if_false, Bool.false_eq_true, ↓reduceIte])
        | (with_reducible refine mu_cond hK true ?_ ?_; (· first | (walk_nrm; done) | (simp [Act.eval]; done)); simp only [if_true, if_false, Bool.false_eq_true, ↓reduceIte])
        | (refine mu_unwanted hK rfl rfl ?_; walk_nrm)
        | (refine muv_val hV rfl (by first | exact .inl rfl | exact .inr rfl) rfl (by kernel_rfl) (fun J hJ => ?_); go_simp; with_reducible refine hJ _ ?_; clear hJ J; walk_nrm))
    refine yek _ ?_
    clear hK hV key yek eK K
    exact law_last (by kernel_rfl) rfl rfl Try.func10 rfl rfl Lq.o Lq.k
  have q2 : decide ((200 : Int) < (pl : Int)) = false := decide_eq_false (by omega)
  obtain ⟨K, eK⟩ : ∃ K : Goroutine → Prop, K = fun g => To0 Try.prog (LPost W) Z V g := ⟨_, rfl⟩
  have hK : Mu Try.prog (fun _ => True) K := by rw [eK]; exact mu_to0
  have hV : MuV Try.prog Lone V K := by rw [eK]; exact muv_to0 hn
  have key : ∀ g, K g → (fun g => To0 Try.prog (LPost W) Z V g) g := fun g h => by rw [eK] at h; exact h
  have yek : ∀ g, (fun g => To0 Try.prog (LPost W) Z V g) g → K g := fun g h => by rw [eK]; exact h
  refine key _ ?_
  repeat (
    first
      | with_reducible refine mu_seq hK ?_
      | with_reducible refine mu_skip hK ?_
      | (with_reducible refine mu_region_end hK ?_; try subst hkk)
      | with_reducible refine mu_block hK ?_
      | with_reducible refine mu_inBlock hK ?_
      | with_reducible refine mu_ret hK ?_
      | with_reducible refine mu_end hK ?_
      | refine mu_exit hK rfl ?_
      | (with_reducible refine mu_regionH hK (fun kk hkk => ?_); simp only [List.size_toArray, List.length_cons, List.length_nil, Nat.reduceAdd, Nat.zero_add, List.range, List.range.loop])
      | (with_reducible refine mu_cond hK false ?_ ?_; (· first | (walk_nrm; done) | (simp [Act.eval]; done)); simp only [if_true, if_false, Bool.false_eq_true, ↓reduceIte])
      | (with_reducible refine mu_cond hK true ?_ ?_; (· first | (walk_nrm; done) | (simp [Act.eval]; done)); simp only [if_true, if_false, Bool.false_eq_true, ↓reduceIte])
      | (refine mu_unwanted hK rfl rfl ?_; walk_nrm)
      | (refine muv_val hV rfl (by first | exact .inl rfl | exact .inr rfl) rfl (by kernel_rfl) (fun J hJ => ?_); go_simp; with_reducible refine hJ _ ?_; clear hJ J; walk_nrm))
  refine yek _ ?_
  clear hK hV key yek eK K
  have hn1 : norm (V.alloc (.cells #[.slice none 0 0, .int .i64 0] 95)) = (V.alloc (.cells #[.slice none 0 0, .int .i64 0] 95)) := norm_al hn _
  refine mua_put (L := Lone) (v := .pointer (some ⟨V.heap.size, 0, none⟩)) (mua_to0 hn1) (K := fun g => To0 Try.prog (LPost W) Z V g) (K' := fun g => To0 Try.prog (LPost W) Z (V.alloc (.cells #[.slice none 0 0, .int .i64 0] 95)) g) rfl (.inl rfl) rfl (by kernel_rfl) (fun τ => ?_) ?_
  · go_simp
    first | exact ⟨by first | rfl | assumption | (simp only [re]; omega), rfl⟩ | rfl | (simp; done)
  have sV1 : (V.alloc (.cells #[.slice none 0 0, .int .i64 0] 95)).heap.size = V.heap.size + 1 := al_size _ _
  have kV1 : Kp V (V.alloc (.cells #[.slice none 0 0, .int .i64 0] 95)) := kp_alloc _ _
  have rV1 : (V.alloc (.cells #[.slice none 0 0, .int .i64 0] 95)).heap[V.heap.size]? = some (.cells #[.slice none 0 0, .int .i64 0] 95) := by rw [al_get, if_pos rfl]
  generalize (V.alloc (.cells #[.slice none 0 0, .int .i64 0] 95)) = V1 at *
  walk_nrm
  obtain ⟨K, eK⟩ : ∃ K : Goroutine → Prop, K = fun g => To0 Try.prog (LPost W) Z V1 g := ⟨_, rfl⟩
  have hK : Mu Try.prog (fun _ => True) K := by rw [eK]; exact mu_to0
  have hV : MuV Try.prog Lone V1 K := by rw [eK]; exact muv_to0 hn1
  have key : ∀ g, K g → (fun g => To0 Try.prog (LPost W) Z V1 g) g := fun g h => by rw [eK] at h; exact h
  have yek : ∀ g, (fun g => To0 Try.prog (LPost W) Z V1 g) g → K g := fun g h => by rw [eK]; exact h
  refine key _ ?_
  repeat (
    first
      | with_reducible refine mu_seq hK ?_
      | with_reducible refine mu_skip hK ?_
      | (with_reducible refine mu_region_end hK ?_; try subst hkk)
      | with_reducible refine mu_block hK ?_
      | with_reducible refine mu_inBlock hK ?_
      | with_reducible refine mu_ret hK ?_
      | with_reducible refine mu_end hK ?_
      | refine mu_exit hK rfl ?_
      | (with_reducible refine mu_regionH hK (fun kk hkk => ?_); simp only [List.size_toArray, List.length_cons, List.length_nil, Nat.reduceAdd, Nat.zero_add, List.range, List.range.loop])
      | (with_reducible refine mu_cond hK false ?_ ?_; (· first | (walk_nrm; done) | (simp [Act.eval]; done)); simp only [if_true, if_false, Bool.false_eq_true, ↓reduceIte])
      | (with_reducible refine mu_cond hK true ?_ ?_; (· first | (walk_nrm; done) | (simp [Act.eval]; done)); simp only [if_true, if_false, Bool.false_eq_true, ↓reduceIte])
      | (refine mu_unwanted hK rfl rfl ?_; walk_nrm)
      | (refine muv_val hV rfl (by first | exact .inl rfl | exact .inr rfl) rfl (by kernel_rfl) (fun J hJ => ?_); go_simp; with_reducible refine hJ _ ?_; clear hJ J; walk_nrm))
  refine yek _ ?_
  clear hK hV key yek eK K
  have hn2 : norm (V1.alloc (.cells #[.int .i64 0] 3)) = (V1.alloc (.cells #[.int .i64 0] 3)) := norm_al hn1 _
  refine mua_put (L := Lone) (v := .pointer (some ⟨V1.heap.size, 0, none⟩)) (mua_to0 hn2) (K := fun g => To0 Try.prog (LPost W) Z V1 g) (K' := fun g => To0 Try.prog (LPost W) Z (V1.alloc (.cells #[.int .i64 0] 3)) g) rfl (.inl rfl) rfl (by kernel_rfl) (fun τ => ?_) ?_
  · go_simp
    first | exact ⟨by first | rfl | assumption | (simp only [re]; omega), rfl⟩ | rfl | (simp; done)
  have sV2 : (V1.alloc (.cells #[.int .i64 0] 3)).heap.size = V1.heap.size + 1 := al_size _ _
  have kV2 : Kp V1 (V1.alloc (.cells #[.int .i64 0] 3)) := kp_alloc _ _
  have rV2 : (V1.alloc (.cells #[.int .i64 0] 3)).heap[V1.heap.size]? = some (.cells #[.int .i64 0] 3) := by rw [al_get, if_pos rfl]
  generalize (V1.alloc (.cells #[.int .i64 0] 3)) = V2 at *
  walk_nrm
  have hn3 : norm (V2.alloc (.cells #[.int .i64 0] 3)) = (V2.alloc (.cells #[.int .i64 0] 3)) := norm_al hn2 _
  refine mua_put (L := Lone) (v := .pointer (some ⟨V2.heap.size, 0, none⟩)) (mua_to0 hn3) (K := fun g => To0 Try.prog (LPost W) Z V2 g) (K' := fun g => To0 Try.prog (LPost W) Z (V2.alloc (.cells #[.int .i64 0] 3)) g) rfl (.inl rfl) rfl (by kernel_rfl) (fun τ => ?_) ?_
  · go_simp
    first | exact ⟨by first | rfl | assumption | (simp only [re]; omega), rfl⟩ | rfl | (simp; done)
  have sV3 : (V2.alloc (.cells #[.int .i64 0] 3)).heap.size = V2.heap.size + 1 := al_size _ _
  have kV3 : Kp V2 (V2.alloc (.cells #[.int .i64 0] 3)) := kp_alloc _ _
  have rV3 : (V2.alloc (.cells #[.int .i64 0] 3)).heap[V2.heap.size]? = some (.cells #[.int .i64 0] 3) := by rw [al_get, if_pos rfl]
  generalize (V2.alloc (.cells #[.int .i64 0] 3)) = V3 at *
  walk_nrm
  have hn4 : norm (V3.alloc (.cells #[.int .i64 0] 3)) = (V3.alloc (.cells #[.int .i64 0] 3)) := norm_al hn3 _
  refine mua_put (L := Lone) (v := .pointer (some ⟨V3.heap.size, 0, none⟩)) (mua_to0 hn4) (K := fun g => To0 Try.prog (LPost W) Z V3 g) (K' := fun g => To0 Try.prog (LPost W) Z (V3.alloc (.cells #[.int .i64 0] 3)) g) rfl (.inl rfl) rfl (by kernel_rfl) (fun τ => ?_) ?_
  · go_simp
    first | exact ⟨by first | rfl | assumption | (simp only [re]; omega), rfl⟩ | rfl | (simp; done)
  have sV4 : (V3.alloc (.cells #[.int .i64 0] 3)).heap.size = V3.heap.size + 1 := al_size _ _
  have kV4 : Kp V3 (V3.alloc (.cells #[.int .i64 0] 3)) := kp_alloc _ _
  have rV4 : (V3.alloc (.cells #[.int .i64 0] 3)).heap[V3.heap.size]? = some (.cells #[.int .i64 0] 3) := by rw [al_get, if_pos rfl]
  generalize (V3.alloc (.cells #[.int .i64 0] 3)) = V4 at *
  walk_nrm
  obtain ⟨mb, emb⟩ : ∃ x, x = V.heap.size := ⟨_, rfl⟩
  obtain ⟨ib, eib⟩ : ∃ x, x = V1.heap.size := ⟨_, rfl⟩
  obtain ⟨ob, eob⟩ : ∃ x, x = V2.heap.size := ⟨_, rfl⟩
  obtain ⟨hb, ehb⟩ : ∃ x, x = V3.heap.size := ⟨_, rfl⟩
  have rm : V4.heap[mb]? = some (.cells #[.slice none 0 0, .int .i64 0] 95 (0, 0)) := by rw [kV4.keep _ (by omega), kV3.keep _ (by omega), kV2.keep _ (by omega), emb]; exact rV1
  have ri : V4.heap[ib]? = some (.cells #[.int .i64 0] 3 (0, 0)) := by rw [kV4.keep _ (by omega), kV3.keep _ (by omega), eib]; exact rV2
  have ro : V4.heap[ob]? = some (.cells #[.int .i64 0] 3 (0, 0)) := by rw [kV4.keep _ (by omega), eob]; exact rV3
  have rh : V4.heap[hb]? = some (.cells #[.int .i64 0] 3 (0, 0)) := by rw [ehb]; exact rV4
  rw [← emb, ← eib, ← eob, ← ehb]
  have k4 : Kp V V4 := kV1.trans (kV2.trans (kV3.trans kV4))
  have s4 : V4.heap.size = V.heap.size + 4 := by omega
  have eL : ib = mb + 1 ∧ ob = mb + 2 ∧ hb = mb + 3 ∧ mb = V.heap.size := by omega
  clear emb eib eob ehb rV1 rV2 rV3 rV4 sV1 sV2 sV3 sV4 kV1 kV2 kV3 kV4
  clear hn1 hn2 hn3 V1 V2 V3
  have EL := Lib.hid eL
  clear eL
  have c0 : ∀ τ, (re V4 τ 0).cell? ⟨ib, 0, none⟩ = some (.int .i64 0) := fun τ => cell_of ri (by simp)
  have z0 : ∀ τ, (re V4 τ 0).frozen? ⟨ib, 0, none⟩ = false := fun τ => by simp [World.frozen?, re, ri]
  have hn5 : norm (V4.setCell ⟨ib, 0, none⟩ (.int .i64 0)) = (V4.setCell ⟨ib, 0, none⟩ (.int .i64 0)) := norm_set hn4 _ _
  have sz5 : (V4.setCell ⟨ib, 0, none⟩ (.int .i64 0)).heap.size = V4.heap.size := by simp [World.setCell]
  have k5 : ∀ x, (V4.setCell ⟨ib, 0, none⟩ (.int .i64 0)).heap[x]? = V4.heap[x]? := fun x => by
    by_cases e : x = ib
    · subst e; rw [set_cells ri]; exact ri.symm
    · exact set_off _ _ e
  refine mus_put (L := Lone) (mus_to0 hn5) (K := fun g => To0 Try.prog (LPost W) Z V4 g) (K' := fun g => To0 Try.prog (LPost W) Z (V4.setCell ⟨ib, 0, none⟩ (.int .i64 0)) g) rfl (.inl rfl) rfl (by kernel_rfl) (fun τ => ?_) ?_
  · go_simp
    try rfl
  generalize (V4.setCell ⟨ib, 0, none⟩ (.int .i64 0)) = V5 at *
  replace rm : V5.heap[mb]? = some (.cells #[.slice none 0 0, .int .i64 0] 95 (0, 0)) := (k5 _).trans rm
  replace ri : V5.heap[ib]? = some (.cells #[.int .i64 0] 3 (0, 0)) := (k5 _).trans ri
  replace ro : V5.heap[ob]? = some (.cells #[.int .i64 0] 3 (0, 0)) := (k5 _).trans ro
  replace rh : V5.heap[hb]? = some (.cells #[.int .i64 0] 3 (0, 0)) := (k5 _).trans rh
  replace k4 : Kp V V5 := ⟨by have := k4.size; omega, fun b hb => (k5 b).trans (k4.keep b hb)⟩
  replace s4 : V5.heap.size = V.heap.size + 4 := by omega
  clear c0 z0 k5 sz5
  walk_nrm
  have c0 : ∀ τ, (re V5 τ 0).cell? ⟨ob, 0, none⟩ = some (.int .i64 0) := fun τ => cell_of ro (by simp)
  have z0 : ∀ τ, (re V5 τ 0).frozen? ⟨ob, 0, none⟩ = false := fun τ => by simp [World.frozen?, re, ro]
  have hn6 : norm (V5.setCell ⟨ob, 0, none⟩ (.int .i64 0)) = (V5.setCell ⟨ob, 0, none⟩ (.int .i64 0)) := norm_set hn5 _ _
  have sz5 : (V5.setCell ⟨ob, 0, none⟩ (.int .i64 0)).heap.size = V5.heap.size := by simp [World.setCell]
  have k5 : ∀ x, (V5.setCell ⟨ob, 0, none⟩ (.int .i64 0)).heap[x]? = V5.heap[x]? := fun x => by
    by_cases e : x = ob
    · subst e; rw [set_cells ro]; exact ro.symm
    · exact set_off _ _ e
  refine mus_put (L := Lone) (mus_to0 hn6) (K := fun g => To0 Try.prog (LPost W) Z V5 g) (K' := fun g => To0 Try.prog (LPost W) Z (V5.setCell ⟨ob, 0, none⟩ (.int .i64 0)) g) rfl (.inl rfl) rfl (by kernel_rfl) (fun τ => ?_) ?_
  · go_simp
    try rfl
  generalize (V5.setCell ⟨ob, 0, none⟩ (.int .i64 0)) = V6 at *
  replace rm : V6.heap[mb]? = some (.cells #[.slice none 0 0, .int .i64 0] 95 (0, 0)) := (k5 _).trans rm
  replace ri : V6.heap[ib]? = some (.cells #[.int .i64 0] 3 (0, 0)) := (k5 _).trans ri
  replace ro : V6.heap[ob]? = some (.cells #[.int .i64 0] 3 (0, 0)) := (k5 _).trans ro
  replace rh : V6.heap[hb]? = some (.cells #[.int .i64 0] 3 (0, 0)) := (k5 _).trans rh
  replace k4 : Kp V V6 := ⟨by have := k4.size; omega, fun b hb => (k5 b).trans (k4.keep b hb)⟩
  replace s4 : V6.heap.size = V.heap.size + 4 := by omega
  clear c0 z0 k5 sz5
  walk_nrm
  have c0 : ∀ τ, (re V6 τ 0).cell? ⟨hb, 0, none⟩ = some (.int .i64 0) := fun τ => cell_of rh (by simp)
  have z0 : ∀ τ, (re V6 τ 0).frozen? ⟨hb, 0, none⟩ = false := fun τ => by simp [World.frozen?, re, rh]
  have hn7 : norm (V6.setCell ⟨hb, 0, none⟩ (.int .i64 0)) = (V6.setCell ⟨hb, 0, none⟩ (.int .i64 0)) := norm_set hn6 _ _
  have sz5 : (V6.setCell ⟨hb, 0, none⟩ (.int .i64 0)).heap.size = V6.heap.size := by simp [World.setCell]
  have k5 : ∀ x, (V6.setCell ⟨hb, 0, none⟩ (.int .i64 0)).heap[x]? = V6.heap[x]? := fun x => by
    by_cases e : x = hb
    · subst e; rw [set_cells rh]; exact rh.symm
    · exact set_off _ _ e
  refine mus_put (L := Lone) (mus_to0 hn7) (K := fun g => To0 Try.prog (LPost W) Z V6 g) (K' := fun g => To0 Try.prog (LPost W) Z (V6.setCell ⟨hb, 0, none⟩ (.int .i64 0)) g) rfl (.inl rfl) rfl (by kernel_rfl) (fun τ => ?_) ?_
  · go_simp
    try rfl
  generalize (V6.setCell ⟨hb, 0, none⟩ (.int .i64 0)) = V7 at *
  replace rm : V7.heap[mb]? = some (.cells #[.slice none 0 0, .int .i64 0] 95 (0, 0)) := (k5 _).trans rm
  replace ri : V7.heap[ib]? = some (.cells #[.int .i64 0] 3 (0, 0)) := (k5 _).trans ri
  replace ro : V7.heap[ob]? = some (.cells #[.int .i64 0] 3 (0, 0)) := (k5 _).trans ro
  replace rh : V7.heap[hb]? = some (.cells #[.int .i64 0] 3 (0, 0)) := (k5 _).trans rh
  replace k4 : Kp V V7 := ⟨by have := k4.size; omega, fun b hb => (k5 b).trans (k4.keep b hb)⟩
  replace s4 : V7.heap.size = V.heap.size + 4 := by omega
  clear c0 z0 k5 sz5
  walk_nrm
  have hs4 := Lib.hid s4
  clear s4
  obtain ⟨K, eK⟩ : ∃ K : Goroutine → Prop, K = fun g => To0 Try.prog (LPost W) Z V7 g := ⟨_, rfl⟩
  have hK : Mu Try.prog (fun _ => True) K := by rw [eK]; exact mu_to0
  have hV : MuV Try.prog Lone V7 K := by rw [eK]; exact muv_to0 hn7
  have key : ∀ g, K g → (fun g => To0 Try.prog (LPost W) Z V7 g) g := fun g h => by rw [eK] at h; exact h
  have yek : ∀ g, (fun g => To0 Try.prog (LPost W) Z V7 g) g → K g := fun g h => by rw [eK]; exact h
  refine key _ ?_
  iterate 40 (
    first
      | with_reducible refine mu_skip hK ?_
      | (with_reducible refine mu_region_end hK ?_; try subst hkk)
      | (with_reducible refine mu_regionH hK (fun kk hkk => ?_); simp only [List.size_toArray, List.length_cons, List.length_nil, Nat.reduceAdd, Nat.zero_add, List.range, List.range.loop])
      | (refine muv_val hV rfl (by first | exact .inl rfl | exact .inr rfl) rfl (by kernel_rfl) (fun J hJ => ?_); go_simp; with_reducible refine hJ _ ?_; clear hJ J; walk_nrm)
      | skip)
  refine mu_seq hK ?_
  iterate 12 (
    first
      | with_reducible refine mu_skip hK ?_
      | (with_reducible refine mu_region_end hK ?_; try subst hkk)
      | (with_reducible refine mu_regionH hK (fun kk hkk => ?_); simp only [List.size_toArray, List.length_cons, List.length_nil, Nat.reduceAdd, Nat.zero_add, List.range, List.range.loop])
      | (refine muv_val hV rfl (by first | exact .inl rfl | exact .inr rfl) rfl (by kernel_rfl) (fun J hJ => ?_); go_simp; with_reducible refine hJ _ ?_; clear hJ J; walk_nrm)
      | skip)
  refine mu_seq hK ?_
  refine yek _ ?_
  clear hK hV key yek eK K
  refine (fun (h : ∀ Y, LB10 = Y → To0 Try.prog (LPost W) Z V7 (G ((base 10).at _ [.code Y, .code _]) [])) => h _ (by simp only [LB10, R4k, B10, nva, nvb, Try.f10, Option.getD_some])) ?_
  intro Y hY
  subst hY
  have hy7 : 0 < n → ∃ g o, ya = some ⟨g, o, none⟩ ∧ g < V7.heap.size ∧ ∀ j, j < n → ∃ z : Nat, z < 256 ∧ z % 6 = ys j % 6 ∧ V7.cell? ⟨g, o + j, none⟩ = some (.int .u8 (z : Int)) := fun h0 => by
    obtain ⟨g, o, e, hg, c⟩ := hy h0
    refine ⟨g, o, e, Nat.lt_of_lt_of_le hg k4.size, fun j hj => ?_⟩
    obtain ⟨z, h1, h2, h3⟩ := c j hj
    exact ⟨z, h1, by omega, k4.cell h3⟩
  refine lo_build (n := n) (yc := yc) (mb := mb) (ib := ib) (ob := ob) (hb := hb) (ya := ya) (pv := .slice pa pl pc) (y := fun j => ys j % 6) hn7 (by omega) (fun j => Nat.mod_lt _ (by decide)) hy7 (by simp) rfl rfl rfl rfl rfl rfl rfl rfl fun T V8 fv nb hs t0 t1 t5 t7 t8 t9 t10 hn8 M => ?_
  obtain ⟨eL1, eL2, eL3, eL4⟩ := EL.out
  have s7 := hs4.out
  have k8 : Kp V7 V8 := ⟨M.sz, M.keep⟩
  have k08 := k4.trans k8
  have s8 := k8.size
  have hfl : (lofs mb ib ob hb nb n).length = n := by simp [lofs]
  have hfg : ∀ i, i < n → (lofs mb ib ob hb nb n).getD i .nilFunc = lof mb ib ob hb (nb i) := fun i hi => by simp [lofs, List.getD_eq_getElem?_getD, List.getElem?_map, List.getElem?_range, hi]
  obtain ⟨fA, fc, rfl, fR⟩ := rds_own M.row
  have fR := fR (fun j => lof mb ib ob hb (nb j)) (fun j hj => by simp [lofs, List.getElem?_map, List.getElem?_range, hj])
  have hF : FnRow V8 (.slice fA n fc) (lofs mb ib ob hb nb n) := by
    refine ⟨⟨fA, fc, by rw [hfl], fun h0 => ?_⟩, fun j hj => .inr ⟨44, #[], #[bq mb, bq ib, bq ob, bq (nb j), bq hb], by rw [hfl] at hj; rw [hfg j hj]; rfl⟩⟩
    rw [hfl] at h0
    obtain ⟨g, o, e, hg, c⟩ := fR.2 h0
    exact ⟨g, o, e, hg, fun j hj => by rw [hfl] at hj; rw [hfg j hj]; exact c j hj⟩
  obtain ⟨D, hD⟩ : ∃ D : LoD, D = { n := n, y := fun j => ys j % 6, mb := mb, ib := ib, ob := ob, hb := hb, nb := nb } := ⟨_, rfl⟩
  have hDn : D.n = n := by rw [hD]
  have hDy : D.y = fun j => ys j % 6 := by rw [hD]
  have hDm : D.mb = mb := by rw [hD]
  have hDi : D.ib = ib := by rw [hD]
  have hDo : D.ob = ob := by rw [hD]
  have hDh : D.hb = hb := by rw [hD]
  have hDb : D.nb = nb := by rw [hD]
  have hnb : ∀ j, j < n → V7.heap.size ≤ nb j ∧ nb j < V8.heap.size := fun j hj => ⟨(M.nb j hj).1, (Array.getElem?_eq_some_iff.1 (M.nb j hj).2).1⟩
  have hX : ∀ b, D.X b → V.heap.size < b ∧ b < V8.heap.size := fun b hb' => by
    rcases hb' with h | h | h | ⟨j, hj, h⟩
    · rw [hDi] at h; omega
    · rw [hDo] at h; omega
    · rw [hDh] at h; omega
    · rw [hDn] at hj; rw [hDb] at h; have := hnb j hj; omega
  have hDO : D.Ok := by
    refine ⟨fun j => by rw [hDy]; show ys j % 6 < 1000; omega, fun h => ?_, by rw [hDi, hDo]; omega, by rw [hDi, hDh]; omega, by rw [hDo, hDh]; omega, fun j hj => ?_⟩
    · have := (hX _ h).1; rw [hDm] at this; omega
    · rw [hDn] at hj; rw [hDb, hDi, hDo, hDh]; have := hnb j hj; omega
  have hI0 : LoInv D Ls.zero (fun b => b = mb ∨ D.X b) V8 := by
    refine ⟨Ls.ok_zero _ _, .slice none 0 0, ?_⟩
    have rm8 := kpat k8 rm
    refine ⟨⟨cell_of (by rw [hDm]; exact rm8) (by simp), ?_, cell_of (by rw [hDm]; exact rm8) (by simp [Ls.zero]), ?_, ⟨rfl, .inl ⟨rfl, rfl⟩⟩, fun b h => (by cases h), fun h => (by cases h), .inl hDm⟩, by rw [hDi]; exact kpat k8 ri, by rw [hDo]; exact kpat k8 ro, by rw [hDh]; exact kpat k8 rh, fun j hj => ?_, fun b h => .inr h, fun b h => (by cases h)⟩
    · rw [hDm]; simp [World.frozen?, rm8]
    · rw [hDm]; simp [World.frozen?, rm8]
    · rw [hDn] at hj; rw [hDb, hDy]; exact (M.nb j hj).2
  have hP : Pks V8 (fun b => b = mb ∨ D.X b) (.slice pa pl pc) ps := by
    obtain ⟨b, c, e, h1⟩ := hp.v
    refine ⟨⟨b, c, e, fun h0 => ?_⟩, hp.r⟩
    obtain ⟨g, o, e1, h2, h3, h4⟩ := h1 h0
    exact ⟨g, o, e1, by omega, fun h => by
      rcases h with h | h
      · omega
      · have := (hX g h).1; omega, fun k hk => k08.cell (h4 k hk)⟩
  have hsm : sm4 (fun j => ys j % 6) n ≤ 100 := by
    have : ∀ m, sm4 (fun j => ys j % 6) m ≤ m * 10 := by
      intro m
      induction m with
      | zero => exact Nat.le_refl _
      | succ m ih =>
        have h5 : sm4 (fun j => ys j % 6) (m + 1) = sm4 (fun j => ys j % 6) m + (ys m % 6 + 4) := rfl
        omega
    have := this n
    omega
  have hsm2 : sumTo n (fun i => 3 + D.y i) < sm4 (fun j => ys j % 6) n ∨ n = 0 := by
    have : ∀ m, sumTo m (fun i => 3 + D.y i) + m = sm4 (fun j => ys j % 6) m := by
      intro m
      induction m with
      | zero => rfl
      | succ m ih =>
        have h5 : sm4 (fun j => ys j % 6) (m + 1) = sm4 (fun j => ys j % 6) m + (ys m % 6 + 4) := rfl
        have h6 : D.y m = ys m % 6 := by rw [hDy]
        simp only [sumTo]
        omega
    have := this n
    omega
  generalize hsv : sm4 (fun j => ys j % 6) n = sv at *
  clear hy hy7
  have EE := Lib.hid (And.intro eL1 (And.intro eL2 (And.intro eL3 eL4)))
  clear eL1 eL2 eL3 eL4
  simp only [bq] at t5 t7 t8
  obtain ⟨f, hf, hT⟩ := array61f T hs
  have et0 := hf 0 _ t0
  have et1 := hf 1 _ t1
  have et5 := hf 5 _ t5
  have et7 := hf 7 _ t7
  have et8 := hf 8 _ t8
  have et9 := hf 9 _ t9
  have et10 := hf 10 _ t10
  clear hf hs t0 t1 t5 t7 t8 t9 t10
  subst hT
  simp only [et0, et1, et5, et7, et8, et9, et10]
  clear et0 et1 et5 et7 et8 et9 et10
  obtain ⟨K, eK⟩ : ∃ K : Goroutine → Prop, K = fun g => To0 Try.prog (LPost W) Z V8 g := ⟨_, rfl⟩
  have hK : Mu Try.prog (fun _ => True) K := by rw [eK]; exact mu_to0
  have hV : MuV Try.prog Lone V8 K := by rw [eK]; exact muv_to0 hn8
  have key : ∀ g, K g → (fun g => To0 Try.prog (LPost W) Z V8 g) g := fun g h => by rw [eK] at h; exact h
  have yek : ∀ g, (fun g => To0 Try.prog (LPost W) Z V8 g) g → K g := fun g h => by rw [eK]; exact h
  refine key _ ?_
  repeat (
    first
      | with_reducible refine mu_seq hK ?_
      | with_reducible refine mu_skip hK ?_
      | (with_reducible refine mu_region_end hK ?_; try subst hkk)
      | with_reducible refine mu_block hK ?_
      | with_reducible refine mu_inBlock hK ?_
      | with_reducible refine mu_ret hK ?_
      | with_reducible refine mu_end hK ?_
      | refine mu_exit hK rfl ?_
      | (with_reducible refine mu_regionH hK (fun kk hkk => ?_); simp only [List.size_toArray, List.length_cons, List.length_nil, Nat.reduceAdd, Nat.zero_add, List.range, List.range.loop])
      | (with_reducible refine mu_cond hK false ?_ ?_; (· first | (walk_nrm; done) | (simp [Act.eval]; done)); simp only [if_true, if_false, Bool.false_eq_true, ↓reduceIte])
      | (with_reducible refine mu_cond hK true ?_ ?_; (· first | (walk_nrm; done) | (simp [Act.eval]; done)); simp only [if_true, if_false, Bool.false_eq_true, ↓reduceIte])
      | (refine mu_unwanted hK rfl rfl ?_; walk_nrm)
      | (refine muv_val hV rfl (by first | exact .inl rfl | exact .inr rfl) rfl (by kernel_rfl) (fun J hJ => ?_); go_simp; with_reducible refine hJ _ ?_; clear hJ J; walk_nrm))
  refine mu_call hK rfl rfl (by decide) rfl Try.func23 (by kernel_rfl) rfl ?_
  rw [← enter_at (P := Try.prog) _ Try.func23 rfl]
  walk_nrm
  refine yek _ ?_
  clear hK hV key yek eK K
  obtain ⟨eL1, eL2, eL3, eL4⟩ := EE.out
  refine run_go (U := fun C => Ulo D C) (σ0 := fun _ => (Ls.zero : Ls)) (own0 := fun b => b = mb ∨ D.X b) (Rn := sv) hn8 hF (by rw [hfl]; omega) L.z (fun b h => by
      rcases h with h | h
      · omega
      · exact (hX b h).2) hP.u (by omega) (by rw [if_neg (by omega : ¬ ((sv : Int) < 0)), if_neg (by omega)]) (fun C E hO hCn hf => ?_) (fun C hCn i hi => ?_) (fun C hCn => hI0) fun C σ' xs' Z' V9 ov ovr pkr own' hCn he A => ?_
  · rw [hfl] at hCn
    refine ulo_ok hO (by omega) (by rw [hDn, hCn]) hDO fun i hi => ?_
    rw [hf i, hfg i (by omega), hDm, hDi, hDo, hDh, hDb]
    rfl
  · rw [hfl] at hi
    show Ls.st D.y Ls.zero i = st0 (lofs mb ib ob hb nb n) i
    unfold st0
    rw [hfg i hi]
    rfl
  rw [hfl, ← hDn] at he
  obtain ⟨hok, hrun⟩ := Ls.run_ok (n := D.n) (y := D.y) (inv := LoInv D) (loc := LoLoc C D) (fid := fun _ => 44) (caps := fun i => #[bq D.mb, bq D.ib, bq D.ob, bq (D.nb i), bq D.hb]) sv ps
  have he2 : (σ', xs') = Ls.run D.n D.y sv ps := he.trans hrun
  have hall := Ls.run_all (n := D.n) (y := D.y) (R := sv) ps (by rw [hDn]; exact hsm2)
  rw [← he2] at hall
  obtain ⟨hfin, how, hmost⟩ : (σ' : Ls).fin.length = D.n ∧ (σ' : Ls).ow = 0 ∧ (σ' : Ls).most ≤ 1 := hall
  have hinv : LoInv D σ' own' V9 := A.inv
  obtain ⟨_, qv, hL⟩ := hinv
  have k9 : Kp V V9 := ⟨by have := A.big; omega, fun b hb => by
    rw [A.keep b (by omega) (fun h => by
      rcases h with h | h
      · omega
      · have := (hX b h).1; omega)]
    exact k08.keep b hb⟩
  have L9 := L.next A.nrm A.shut (fun b hb => A.zold b (by omega)) k9
  have hn9 := A.nrm
  have c1 := hL.mu.c1
  rw [hDm, how] at c1
  have cO : ∀ τ, (re V9 τ 0).cell? ⟨ob, 0, none⟩ = some (.int .i64 ((σ' : Ls).most : Int)) := fun τ => cell_of (by rw [← hDo]; exact hL.co) (by simp)
  have cH : ∀ τ, (re V9 τ 0).cell? ⟨hb, 0, none⟩ = some (.int .i64 (n : Int)) := fun τ => cell_of (by rw [← hDh]; exact hL.ch) (by simp [hfin, hDn])
  have q3 : decide (((σ' : Ls).most : Int) ≤ 1) = true := decide_eq_true (by omega)
  have OWN := fun τ => owner47 mb 0 0 (re V9 τ 0) (by omega) c1
  clear A he he2 hrun hok hL hF hP hI0 hsm2 hfin how hX hDO hnb M fR
  clear eL1 eL2 eL3 eL4 s7 hDn hDy hDm hDi hDo hDh hDb
  generalize (σ' : Ls).most = mo at *
  walk_nrm
  obtain ⟨K, eK⟩ : ∃ K : Goroutine → Prop, K = fun g => To0 Try.prog (LPost W) Z' V9 g := ⟨_, rfl⟩
  have hK : Mu Try.prog (fun _ => True) K := by rw [eK]; exact mu_to0
  have hV : MuV Try.prog Lone V9 K := by rw [eK]; exact muv_to0 hn9
  have key : ∀ g, K g → (fun g => To0 Try.prog (LPost W) Z' V9 g) g := fun g h => by rw [eK] at h; exact h
  have yek : ∀ g, (fun g => To0 Try.prog (LPost W) Z' V9 g) g → K g := fun g h => by rw [eK]; exact h
  refine key _ ?_
  repeat (
    first
      | with_reducible refine mu_seq hK ?_
      | with_reducible refine mu_skip hK ?_
      | (with_reducible refine mu_region_end hK ?_; try subst hkk)
      | with_reducible refine mu_block hK ?_
      | with_reducible refine mu_inBlock hK ?_
      | with_reducible refine mu_ret hK ?_
      | with_reducible refine mu_end hK ?_
      | refine mu_exit hK rfl ?_
      | (with_reducible refine mu_regionH hK (fun kk hkk => ?_); simp only [List.size_toArray, List.length_cons, List.length_nil, Nat.reduceAdd, Nat.zero_add, List.range, List.range.loop])
      | (with_reducible refine mu_cond hK false ?_ ?_; (· first | (walk_nrm; done) | (simp [Act.eval]; done)); simp only [if_true, if_false, Bool.false_eq_true, ↓reduceIte])
      | (with_reducible refine mu_cond hK true ?_ ?_; (· first | (walk_nrm; done) | (simp [Act.eval]; done)); simp only [if_true, if_false, Bool.false_eq_true, ↓reduceIte])
      | (refine mu_unwanted hK rfl rfl ?_; walk_nrm)
      | (refine muv_val hV rfl (by first | exact .inl rfl | exact .inr rfl) rfl (by kernel_rfl) (fun J hJ => ?_); go_simp; with_reducible refine hJ _ ?_; clear hJ J; walk_nrm))
  refine mu_call hK rfl rfl (by decide) rfl Try.func47 (by kernel_rfl) rfl ?_
  rw [← enter_at (P := Try.prog) _ Try.func47 rfl]
  walk_nrm
  refine yek _ ?_
  clear hK hV key yek eK K
  refine to0_call (R := fun v V' => v = .int .i64 (-1) ∧ V' = V9) (by decide) (fun τ => (OWN τ).mono fun e w' h => by
    obtain ⟨rfl, rfl⟩ := h
    exact ⟨rfl, hn9⟩) fun u V' hnV' h => ?_
  obtain ⟨rfl, rfl⟩ := h
  rw [Frame.finish_at]
  walk_nrm
  obtain ⟨K, eK⟩ : ∃ K : Goroutine → Prop, K = fun g => To0 Try.prog (LPost W) Z' V' g := ⟨_, rfl⟩
  have hK : Mu Try.prog (fun _ => True) K := by rw [eK]; exact mu_to0
  have hV : MuV Try.prog Lone V' K := by rw [eK]; exact muv_to0 hnV'
  have key : ∀ g, K g → (fun g => To0 Try.prog (LPost W) Z' V' g) g := fun g h => by rw [eK] at h; exact h
  have yek : ∀ g, (fun g => To0 Try.prog (LPost W) Z' V' g) g → K g := fun g h => by rw [eK]; exact h
  refine key _ ?_
  repeat (
    first
      | with_reducible refine mu_seq hK ?_
      | with_reducible refine mu_skip hK ?_
      | (with_reducible refine mu_region_end hK ?_; try subst hkk)
      | with_reducible refine mu_block hK ?_
      | with_reducible refine mu_inBlock hK ?_
      | with_reducible refine mu_ret hK ?_
      | with_reducible refine mu_end hK ?_
      | refine mu_exit hK rfl ?_
      | (with_reducible refine mu_regionH hK (fun kk hkk => ?_); simp only [List.size_toArray, List.length_cons, List.length_nil, Nat.reduceAdd, Nat.zero_add, List.range, List.range.loop])
      | (with_reducible refine mu_cond hK false ?_ ?_; (· first | (walk_nrm; done) | (simp [Act.eval]; done)); simp only [if_true, if_false, Bool.false_eq_true, ↓reduceIte])
      | (with_reducible refine mu_cond hK true ?_ ?_; (· first | (walk_nrm; done) | (simp [Act.eval]; done)); simp only [if_true, if_false, Bool.false_eq_true, ↓reduceIte])
      | (refine mu_unwanted hK rfl rfl ?_; walk_nrm)
      | (refine muv_val hV rfl (by first | exact .inl rfl | exact .inr rfl) rfl (by kernel_rfl) (fun J hJ => ?_); go_simp; with_reducible refine hJ _ ?_; clear hJ J; walk_nrm))
  refine mu_call hK rfl rfl (by decide) rfl Try.func43 (by kernel_rfl) rfl ?_
  rw [← enter_at (P := Try.prog) _ Try.func43 rfl]
  walk_nrm
  refine yek _ ?_
  clear hK hV key yek eK K
  refine live28_go L9.n L9.z fun Zq Vq hnq hzq hoq kq => ?_
  have Lq := L9.next hnq hzq hoq kq
  walk_nrm
  obtain ⟨K, eK⟩ : ∃ K : Goroutine → Prop, K = fun g => To0 Try.prog (LPost W) Zq Vq g := ⟨_, rfl⟩
  have hK : Mu Try.prog (fun _ => True) K := by rw [eK]; exact mu_to0
  have hV : MuV Try.prog Lone Vq K := by rw [eK]; exact muv_to0 Lq.n
  have key : ∀ g, K g → (fun g => To0 Try.prog (LPost W) Zq Vq g) g := fun g h => by rw [eK] at h; exact h
  have yek : ∀ g, (fun g => To0 Try.prog (LPost W) Zq Vq g) g → K g := fun g h => by rw [eK]; exact h
  refine key _ ?_
  repeat (
    first
      | with_reducible refine mu_seq hK ?_
      | with_reducible refine mu_skip hK ?_
      | (with_reducible refine mu_region_end hK ?_; try subst hkk)
      | with_reducible refine mu_block hK ?_
      | with_reducible refine mu_inBlock hK ?_
      | with_reducible refine mu_ret hK ?_
      | with_reducible refine mu_end hK ?_
      | refine mu_exit hK rfl ?_
      | (with_reducible refine mu_regionH hK (fun kk hkk => ?_); simp only [List.size_toArray, List.length_cons, List.length_nil, Nat.reduceAdd, Nat.zero_add, List.range, List.range.loop])
      | (with_reducible refine mu_cond hK false ?_ ?_; (· first | (walk_nrm; done) | (simp [Act.eval]; done)); simp only [if_true, if_false, Bool.false_eq_true, ↓reduceIte])
      | (with_reducible refine mu_cond hK true ?_ ?_; (· first | (walk_nrm; done) | (simp [Act.eval]; done)); simp only [if_true, if_false, Bool.false_eq_true, ↓reduceIte])
      | (refine mu_unwanted hK rfl rfl ?_; walk_nrm)
      | (refine muv_val hV rfl (by first | exact .inl rfl | exact .inr rfl) rfl (by kernel_rfl) (fun J hJ => ?_); go_simp; with_reducible refine hJ _ ?_; clear hJ J; walk_nrm))
  refine yek _ ?_
  clear hK hV key yek eK K
  exact law_last (by kernel_rfl) rfl rfl Try.func10 rfl rfl Lq.o Lq.k
end
end Go.Proofs.Ytibcdikfbhmheaa
