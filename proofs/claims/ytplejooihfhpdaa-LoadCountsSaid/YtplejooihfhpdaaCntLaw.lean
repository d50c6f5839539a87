/- The walk of LoadCounts. -/
import Derived.Test.YtplejooihfhpdaaClients
import Derived.Test.YtplejooihfhpdaaLiv
namespace Go.Proofs.Ytplejooihfhpdaa
open Go.RowKit
set_option linter.unusedVariables false

theorem counts_great (A : Option Addr) (n cap : Nat) (hn : 60 < n) (w : World) :
    Calls Try.prog 5 #[.slice A n cap] w fun x w' => x = .returned (.bool true) ∧ New w w' := by
  have HL := Lib.hid live_any
  go_enter Try.func5, Try.ntmps5
  go_wp2_with (go_at_call 6; refine (HL.out _).mono ?_; rintro e w1 ⟨rfl, n1⟩)
  go_ret
  exact ⟨rfl, n1⟩
theorem lk_op {o : Oper} {f : Operand → Value} {w : World} {x y : Operand} {m k v : Value} {t : TypeId} (ho : o.op = .lookup t x y false) (hx : f x = m) (hy : f y = k) (h : (Instr.lookup t m k false).run Try.prog w = .ok v w) : (execOp f o).run Try.prog w = .ok (.value v) w := by
  unfold execOp
  simp only [ho, hx, hy, Sem.run_bind, Sem.run_pure, Result.andThen_ok, h]
theorem ld_op {o : Oper} {f : Operand → Value} {w : World} {x : Operand} {g off : Nat} {p : Ld} (ho : o.op = .load 25 x) (hx : f x = .pointer (some ⟨g, off, none⟩)) (h : At4 w ⟨g, off, none⟩ p) : (execOp f o).run Try.prog w = .ok (.value p.agg) w := by
  have hl := run_loadAt_mid (P := Try.prog) w g off 25 [.int .i64 p.c, .int .i64 p.e, .int .i64 p.n, .int .i64 p.l] _ (fun j v hv => by
    match j, hv with
    | 0, hv => simp at hv; subst hv; exact h.2.1
    | 1, hv => simp at hv; subst hv; exact h.2.2.1
    | 2, hv => simp at hv; subst hv; exact h.2.2.2.1
    | 3, hv => simp at hv; subst hv; exact h.2.2.2.2) Try.underlying25 rfl size25
  unfold execOp
  simp only [ho, hx, Sem.run_bind, Sem.run_pure, Result.andThen_ok, hl]
  rfl
theorem len_op {o : Oper} {f : Operand → Value} {w : World} {x : Operand} {m v : Value} {t : TypeId} (ho : o.op = .call { callee := .builtin .len, args := #[x], argTypes := #[t] }) (hx : f x = m) (h : (Builtin.len_ #[t] o.type #[m]).run Try.prog w = .ok v w) : (execOp f o).run Try.prog w = .ok (.value v) w := by
  simp [execOp, ho, resolve, invoke, builtin, hx, h, Result.andThen]
theorem At4.box {w : World} {g : Nat} {t : TypeId} {p : Ld} (h : Box w g t p.cs) : At4 w ⟨g, 0, none⟩ p := At4.of_box h rfl rfl rfl rfl
theorem put_box {w : World} {g : Nat} {t : TypeId} {p0 : Ld} (h : Box w g t p0.cs) (p : Ld) : Box (st4 w g 0 p) g t p.cs := by
  rw [st4_eq]
  exact (((h.put 0 (.int .i64 p.c)).put 1 (.int .i64 p.e)).put 2 (.int .i64 p.n)).put 3 (.int .i64 p.l)
theorem wp_stb {o : Oper} {a : Act} {w : World} {K : Act → World → Prop} {Q : Exit → Act → World → Prop} {x y : Operand} {g : Nat} {t : TypeId} {p0 p : Ld} (ho : o.op = .store 25 x y) (hx : a.eval x = .pointer (some ⟨g, 0, none⟩)) (hy : a.eval y = p.agg) (h : Box w g t p0.cs)
    (hk : K (a.put o.dst undef) (st4 w g 0 p)) : o.wp Try.prog a w K Q := by
  refine wp_store_mid 25 x y ho g 0 p.cs hx hy ?_ size25 (by simp [Ld.cs, Value.oneCell']) hk
  intro j hj
  have hj' : j < 4 := hj
  refine ⟨?_, h.frozen _⟩
  rw [Nat.zero_add, h.cell]
  match j, hj' with
  | 0, _ => rfl
  | 1, _ => rfl
  | 2, _ => rfl
  | 3, _ => rfl
theorem wpl_ld4 {ops : Array Oper} {rest : List Oper} {o : Oper} {a : Act} {w : World} {Q : Exit → Act → World → Prop} {x : Operand} {g off : Nat} {p : Ld} (ho : o.op = .load 25 x) (hx : a.eval x = .pointer (some ⟨g, off, none⟩)) (hg : o.guard = none) (h : At4 w ⟨g, off, none⟩ p)
    (hk : wpList Try.prog ops Q rest (a.put o.dst p.agg) w) : wpList Try.prog ops Q (o :: rest) a w := wpList_plain hg fun _ hK => wp_ld4 ho hx h (hK _ _ hk)
theorem wpl_stb {ops : Array Oper} {rest : List Oper} {o : Oper} {a : Act} {w : World} {Q : Exit → Act → World → Prop} {x y : Operand} {g : Nat} {t : TypeId} {p0 p : Ld} (ho : o.op = .store 25 x y) (hx : a.eval x = .pointer (some ⟨g, 0, none⟩)) (hy : a.eval y = p.agg) (hg : o.guard = none) (h : Box w g t p0.cs)
    (hk : wpList Try.prog ops Q rest (a.put o.dst undef) (st4 w g 0 p)) : wpList Try.prog ops Q (o :: rest) a w := wpList_plain hg fun _ hK => wp_stb ho hx hy h (hK _ _ hk)
theorem wpl_lookL {ops : Array Oper} {rest : List Oper} {o : Oper} {a : Act} {w : World} {Q : Exit → Act → World → Prop} {m x : Operand} {b n s : Nat} {f : Int → Ld} {e : Int}
    (hop : o.op = .lookup 55 m x false) (hm : a.eval m = .map (some b)) (hx : a.eval x = .int .i64 e) (hg : o.guard = none) (hM : MapL w b n f s) (he : i64 e) (hk : wpList Try.prog ops Q rest (a.put o.dst (f e).agg) w) : wpList Try.prog ops Q (o :: rest) a w := wpList_plain hg fun _ hK => wp_lookL hop hm hx hM he (hK _ _ hk)
theorem wpl_build2 {ops : Array Oper} {rest : List Oper} {o : Oper} {a : Act} {w : World} {Q : Exit → Act → World → Prop} {x y : Operand} {p q : Ld}
    (ho : o.op = .buildSlice 22 2 #[(0, x), (1, y)]) (hx : a.eval x = p.agg) (hy : a.eval y = q.agg) (hg : o.guard = none)
    (hk : wpList Try.prog ops Q rest (a.put o.dst (.slice (some ⟨w.heap.size, 0, none⟩) 2 2)) (w.alloc (.cells (two p q) 25))) : wpList Try.prog ops Q (o :: rest) a w := wpList_plain hg fun _ hK => wp_build2 ho hx hy (hK _ _ hk)
theorem wpl_st53 {ops : Array Oper} {rest : List Oper} {o : Oper} {a : Act} {w : World} {Q : Exit → Act → World → Prop} {x y : Operand} {f : Nat → Ld} {c : Array Value}
    (ho : o.op = .store 53 x y) (hx : a.eval x = .pointer (some ⟨w.heap.size, 0, none⟩)) (hy : a.eval y = .agg (kc f)) (hc : c.size = 32) (hg : o.guard = none)
    (hk : wpList Try.prog ops Q rest (a.put o.dst undef) (w.alloc (.cells (kc f) 53))) : wpList Try.prog ops Q (o :: rest) a (w.alloc (.cells c 53)) :=
  wpList_plain hg fun K hK => by
    unfold Oper.wp execOp
    simp only [ho, hx, hy, Sem.run_bind, Sem.run_pure, Result.andThen_ok, run_storeAt_new w 53 c (kc f) size53 (by rw [hc, kc_size]) (kc_one f)]
    exact hK _ _ hk
theorem MapL.setCell {w : World} {b n s : Nat} {f : Int → Ld} (h : MapL w b n f s) {p : Addr} (hb : b ≠ p.block) (u : Value) : MapL (w.setCell p u) b n f s := by
  obtain ⟨D, h1, h2⟩ := h
  exact ⟨D, h1.kept (row := some p.block) ⟨rfl, rfl, rfl, by simp [World.setCell], fun k _ hk => Below.heap_setCell _ _ _ _ (fun e => hk (by rw [e]))⟩ (by simpa using hb), h2⟩
theorem MapL.st4 {w : World} {b n s g : Nat} {f : Int → Ld} (h : MapL w b n f s) (hb : b ≠ g) (o : Nat) (p : Ld) : MapL (Go.Proofs.Ytplejooihfhpdaa.st4 w g o p) b n f s := by
  rw [st4_eq]
  exact (((h.setCell hb _).setCell hb _).setCell hb _).setCell hb _
theorem ofSel_any (A : Option Addr) (n cap : Nat) (o : Nat → Array Value) (z : Nat → Nm) (P : Nat → Bool) (hn : n ≤ 60) (w : World)
    (hL : Ops w A (sel P n).length (fun j => o ((sel P n).getD j 0)) (fun j => z ((sel P n).getD j 0))) :
    Calls Try.prog 12 #[.slice A (sel P n).length cap] w fun e w' => e = .returned (accL z P n).agg ∧ New w w' := by
  rw [← ofL_sel z P n]
  exact of_any A _ cap _ _ (Nat.le_trans (sel_len P n) hn) w hL

set_option maxRecDepth 100000 in
set_option maxHeartbeats 8000000 in
theorem counts_walk (A : Option Addr) (n cap : Nat) (o : Nat → Array Value) (z : Nat → Nm) (hn : n ≤ 60) (hcap : n ≤ cap) (w : World) (hL : Ops w A n o z) :
    Calls Try.prog 5 #[.slice A n cap] w fun x w' => x = .returned (.bool true) ∧ New w w' := by
  have HL := Lib.hid live_any
  have HX := Lib.hid hL
  have HKI := Lib.hid (kinds_any A n cap o z hn w hL)
  have HCL := Lib.hid (fun w' (m : New w w') => clients_any A n cap o z hn w' (hL.new m))
  have HK := Lib.hid (fun (q : Int) w' (m : New w w') => kind_any A n cap o z q hn w' (hL.new m))
  have HW := Lib.hid (fun k (hk : k ≤ n) (q : Int) w' (m : New w w') => who_any A k cap o z q (by omega) w' ((hL.less hk).new m))
  have HO := Lib.hid (fun w' (m : New w w') => (show Calls Try.prog 12 #[.slice A n cap] w' fun e w'' => e = .returned (accL z (fun _ => true) n).agg ∧ New w' w'' by rw [← ofL_all]; exact of_any A n cap o z hn w' (hL.new m)))
  have HOS := Lib.hid (fun A' c P w' h => ofSel_any A' n c o z P hn w' h)
  have HSM := Lib.hid same_any
  have HKA := Lib.hid (kinds_all z n)
  have HCA := Lib.hid (clients_all z n n (Nat.le_refl _))
  have HLK := Lib.hid (fun k => lin_foldK (f := fun q => accL z (kP z q) n) (c := n) (fun q => lin_acc z (kP z q) n) (by omega) k)
  have HLF := Lib.hid (fun k => lin_foldW z (F := fun q => accL z (wP z q) n) (c := n) (fun q => lin_acc z (wP z q) n) (by omega) k)
  have HLA := Lib.hid (fun P => lin_acc z P n)
  clear hL
  go_enter Try.func5, Try.ntmps5
  go_wp2_with (first | (go_at_call 13; refine HKI.out.mono ?_; rintro e w1 ⟨rfl, n1⟩) | (go_at_call 14; refine (HCL.out _ n1).mono ?_; rintro e w2 ⟨b, rfl, hM2, n2⟩; have n12 := n1.trans n2) | (refine wpl_st53 rfl rfl rfl (by rfl) rfl ?_))
  have lbM := hM2.lt
  go_loopg [6] 8 (fun g i wr => ∃ k : Nat, k + g = 8 ∧ i = .int .i64 k ∧ New w wr ∧ Box wr w2.heap.size 53 (kc fun q => accL z (kP z q) n) ∧ MapL wr b n (fun q => accL z (wP z q) n) (manyW z n) ∧ Box wr (w2.heap.size + 1) 25 (foldK (fun q => accL z (kP z q) n) k).cs)
  case atStart =>
    exact ⟨0, by omega, rfl, (n12.alloc _).alloc _, (Box.made w2 53 _).alloc _, hM2.new (((New.refl _).alloc _).alloc _), Box.made' (w2.alloc (.cells _ 53)) 25 _ (by simp)⟩
  case round =>
    obtain ⟨k, hk, rfl, nw, bk, hM, ba⟩ := hrel
    have lb := bk.lt
    have ltw : w.heap.size ≤ w2.heap.size := n12.lt
    by_cases hlt : k < 8
    · have hlt9 : (k : Int) < 8 := by omega
      have HKk := Lib.hid (fun w' (m : New w w') => HK.out (k : Int) w' m)
      have lin1 := HLA.out (kP z k)
      have lin8 := HLK.out k
      have lin9 : ((k : Int) * (n : Int)) ≤ 1000000 := by
        have := Int.mul_le_mul (show (k : Int) ≤ 8 by omega) (show (n : Int) ≤ 60 by omega) (by omega) (by omega)
        omega
      have lin7 : (n : Int) ≤ 1000000 := by omega
      clear hM2
      go_wp2_with fail
      refine wp_region_held_drew (S := (fun w' => New w w' ∧ Box w' w2.heap.size 53 (kc fun q => accL z (kP z q) n) ∧ MapL w' b n (fun q => accL z (wP z q) n) (manyW z n) ∧ Box w' (w2.heap.size + 1) 25 (foldK (fun q => accL z (kP z q) n) k).cs)) (by kernel_rfl) ⟨nw.drew, bk.draws 1, hM.new (New.refl _).drew, ba.draws 1⟩ (fun hH => ?_)
      refine wpAnyH_take (i := 0) (oi := { dst := some 24, op := Go.Op.move (Go.Operand.tmp 6), type := 3, pos := "law.go:30", after := #[], guard := none }) (v := ?_) rfl (by kernel_rfl) (by kernel_rfl) (by kernel_rfl) (fun _ _ _ h => h) (Or.inl ⟨by rfl, ?_⟩) hH ?_
      rotate_left; (intro w5 hS5; go_simp; try rfl)
      try simp only [Act.put, List.setIfInBounds_toArray, List.set_cons_zero, List.set_cons_succ]
      refine wpAnyH_take (i := 1) (oi := { dst := some 25, op := Go.Op.indexAddr 53 (Go.Operand.tmp 3) (Go.Operand.tmp 24), type := 0, pos := "law.go:30", after := #[{ on := 0, ground := Go.Ground.data }], guard := none }) (v := .pointer (some ⟨w2.heap.size, k * 4, none⟩)) rfl (by kernel_rfl) (by kernel_rfl) (by kernel_rfl) (fun _ _ _ h => h) (Or.inl ⟨by rfl, ?_⟩) hH ?_
      (intro w5 hS5; go_simp; try rfl)
      try simp only [Act.put, List.setIfInBounds_toArray, List.set_cons_zero, List.set_cons_succ]
      refine wpAnyH_take (i := 2) (oi := { dst := some 26, op := Go.Op.load 25 (Go.Operand.tmp 25), type := 25, pos := "law.go:30", after := #[{ on := 1, ground := Go.Ground.data }], guard := none }) (v := (accL z (kP z k) n).agg) rfl (by kernel_rfl) (by kernel_rfl) (by kernel_rfl) (fun _ _ _ h => h) (Or.inl ⟨by rfl, ?_⟩) hH ?_
      (intro w5 hS5; refine ld_op (x := .tmp 25) (by rfl) ?_ (at4_kc (q := k) (f := fun q => accL z (kP z q) n) hS5.2.1 hlt) <;> rfl)
      try simp only [Act.put, List.setIfInBounds_toArray, List.set_cons_zero, List.set_cons_succ]
      refine wpAnyH_take (i := 3) (oi := { dst := some 27, op := Go.Op.move (Go.Operand.tmp 0), type := 28, pos := "law.go:30", after := #[], guard := none }) (v := ?_) rfl (by kernel_rfl) (by kernel_rfl) (by kernel_rfl) (fun _ _ _ h => h) (Or.inl ⟨by rfl, ?_⟩) hH ?_
      rotate_left; (intro w5 hS5; go_simp; try rfl)
      try simp only [Act.put, List.setIfInBounds_toArray, List.set_cons_zero, List.set_cons_succ]
      refine wpAnyH_take (i := 4) (oi := { dst := some 28, op := Go.Op.move (Go.Operand.tmp 6), type := 3, pos := "law.go:30", after := #[], guard := none }) (v := ?_) rfl (by kernel_rfl) (by kernel_rfl) (by kernel_rfl) (fun _ _ _ h => h) (Or.inl ⟨by rfl, ?_⟩) hH ?_
      rotate_left; (intro w5 hS5; go_simp; try rfl)
      try simp only [Act.put, List.setIfInBounds_toArray, List.set_cons_zero, List.set_cons_succ]
      refine wpAnyH_ready (rs := [5]) (by kernel_rfl) (by simp) ?_
      refine AllReadyH.cons (o := { dst := some 29, op := Go.Op.call { callee := Go.Callee.value (Go.Operand.func 11), args := #[Go.Operand.tmp 27, Go.Operand.tmp 28], argTypes := #[28, 3] }, type := 28, pos := "law.go:30", after := #[{ on := 3, ground := Go.Ground.data }, { on := 4, ground := Go.Ground.data }], guard := none }) rfl (fun K5 hK5 => ?_) AllReadyH.nil
      go_simp
      refine (HKk.out _ hH.1).mono ?_
      rintro e w3 ⟨A3, c3, rfl, O3, n3⟩
      refine hK5.out _ _ ⟨hH.1.trans n3, hH.2.1.new n3, hH.2.2.1.new n3, hH.2.2.2.new n3⟩ (fun hH1 => ?_)
      clear hK5 K5
      try simp only [Act.put, List.setIfInBounds_toArray, List.set_cons_zero, List.set_cons_succ]
      refine wpAnyH_ready (rs := [6]) (by kernel_rfl) (by simp) ?_
      refine AllReadyH.cons (o := { dst := some 30, op := Go.Op.call { callee := Go.Callee.value (Go.Operand.func 12), args := #[Go.Operand.tmp 29], argTypes := #[28] }, type := 50, pos := "law.go:30", after := #[{ on := 5, ground := Go.Ground.data }, { on := 5, ground := Go.Ground.chain }], guard := none }) rfl (fun K5 hK5 => ?_) AllReadyH.nil
      go_simp
      refine (HOS.out A3 c3 (kP z k) w3 O3).mono ?_
      rintro e w4 ⟨rfl, n4⟩
      refine hK5.out _ _ ⟨hH1.1.trans n4, hH1.2.1.new n4, hH1.2.2.1.new n4, hH1.2.2.2.new n4⟩ (fun hH2 => ?_)
      clear hK5 K5
      try simp only [Act.put, List.setIfInBounds_toArray, List.set_cons_zero, List.set_cons_succ]
      refine wpAnyH_ready (rs := [7]) (by kernel_rfl) (by simp) ?_
      refine AllReadyH.cons (o := { dst := some 31, op := Go.Op.call { callee := Go.Callee.value (Go.Operand.func 15), args := #[Go.Operand.tmp 26, Go.Operand.tmp 30], argTypes := #[25, 50] }, type := 4, pos := "law.go:30", after := #[{ on := 2, ground := Go.Ground.data }, { on := 6, ground := Go.Ground.data }, { on := 6, ground := Go.Ground.chain }], guard := none }) rfl (fun K5 hK5 => ?_) AllReadyH.nil
      go_simp
      refine (HSM.out (accL z (kP z k) n) w4).mono ?_
      rintro e w5 ⟨rfl, n5⟩
      refine hK5.out _ _ ⟨hH2.1.trans n5, hH2.2.1.new n5, hH2.2.2.1.new n5, hH2.2.2.2.new n5⟩ (fun hH3 => ?_)
      clear hK5 K5
      try simp only [Act.put, List.setIfInBounds_toArray, List.set_cons_zero, List.set_cons_succ]
      refine wpAnyH_take (i := 8) (oi := { dst := some 32, op := Go.Op.unOp Go.UnOp.not 4 (Go.Operand.tmp 31), type := 4, pos := "law.go:30", after := #[{ on := 7, ground := Go.Ground.data }], guard := none }) (v := ?_) rfl (by kernel_rfl) (by kernel_rfl) (by kernel_rfl) (fun _ _ _ h => h) (Or.inl ⟨by rfl, ?_⟩) hH3 ?_
      rotate_left; (intro w5 hS5; go_simp; try rfl)
      try simp only [Act.put, List.setIfInBounds_toArray, List.set_cons_zero, List.set_cons_succ]
      refine wpAnyH_done (by kernel_rfl) ?_ _
      have hG := hH3
      clear hH hH1 hH2 hH3
      go_wp2_with fail
      refine wp_region_held_drew (S := (fun w' => New w w' ∧ Box w' w2.heap.size 53 (kc fun q => accL z (kP z q) n) ∧ MapL w' b n (fun q => accL z (wP z q) n) (manyW z n))) (by kernel_rfl) ⟨hG.1.drew, hG.2.1.draws 1, hG.2.2.1.new (New.refl _).drew⟩ (fun hH => ?_)
      have bA := hG.2.2.2.draws 1
      clear hG
      refine wpAnyH_take (i := 1) (oi := { dst := some 34, op := Go.Op.move (Go.Operand.tmp 6), type := 3, pos := "law.go:33", after := #[], guard := none }) (v := ?_) rfl (by kernel_rfl) (by kernel_rfl) (by kernel_rfl) (fun _ _ _ h => h) (Or.inl ⟨by rfl, ?_⟩) hH ?_
      rotate_left; (intro w5 hS5; go_simp; try rfl)
      try simp only [Act.put, List.setIfInBounds_toArray, List.set_cons_zero, List.set_cons_succ]
      refine wpAnyH_take (i := 2) (oi := { dst := some 35, op := Go.Op.indexAddr 53 (Go.Operand.tmp 3) (Go.Operand.tmp 34), type := 0, pos := "law.go:33", after := #[{ on := 1, ground := Go.Ground.data }], guard := none }) (v := .pointer (some ⟨w2.heap.size, k * 4, none⟩)) rfl (by kernel_rfl) (by kernel_rfl) (by kernel_rfl) (fun _ _ _ h => h) (Or.inl ⟨by rfl, ?_⟩) hH ?_
      (intro w5 hS5; go_simp; try rfl)
      try simp only [Act.put, List.setIfInBounds_toArray, List.set_cons_zero, List.set_cons_succ]
      refine wpAnyH_take (i := 3) (oi := { dst := some 36, op := Go.Op.load 25 (Go.Operand.tmp 35), type := 25, pos := "law.go:33", after := #[{ on := 2, ground := Go.Ground.data }], guard := none }) (v := (accL z (kP z k) n).agg) rfl (by kernel_rfl) (by kernel_rfl) (by kernel_rfl) (fun _ _ _ h => h) (Or.inl ⟨by rfl, ?_⟩) hH ?_
      (intro w5 hS5; refine ld_op (x := .tmp 35) (by rfl) ?_ (at4_kc (q := k) (f := fun q => accL z (kP z q) n) hS5.2.1 hlt) <;> rfl)
      try simp only [Act.put, List.setIfInBounds_toArray, List.set_cons_zero, List.set_cons_succ]
      refine wpAnyH_ready (rs := [0]) (by kernel_rfl) (by simp) ?_
      refine AllReadyH.cons (o := { dst := some 33, op := Go.Op.load 25 (Go.Operand.tmp 5), type := 25, pos := "law.go:33", after := #[], guard := none }) rfl (fun K5 hK5 => ?_) AllReadyH.nil
      rw [if_pos (by rfl)]
      refine wp_ld4 (x := .tmp 5) rfl rfl (At4.box bA) ?_
      refine hK5.out _ _ hH (fun hH1 => ?_)
      clear hK5 K5
      try simp only [Act.put, List.setIfInBounds_toArray, List.set_cons_zero, List.set_cons_succ]
      refine wpAnyH_ready (rs := [4]) (by kernel_rfl) (by simp) ?_
      refine AllReadyH.cons (o := { dst := some 37, op := Go.Op.buildSlice 22 2 #[(0, Go.Operand.tmp 33), (1, Go.Operand.tmp 36)], type := 22, pos := "law.go:33", after := #[{ on := 0, ground := Go.Ground.data }, { on := 3, ground := Go.Ground.data }], guard := none }) rfl (fun K5 hK5 => ?_) AllReadyH.nil
      rw [if_pos (by rfl)]
      refine wp_build2 (x := .tmp 33) (y := .tmp 36) rfl rfl rfl ?_
      refine hK5.out _ _ ⟨hH1.1.alloc _, hH1.2.1.alloc _, hH1.2.2.new ((New.refl _).alloc _)⟩ (fun hH2 => ?_)
      clear hK5 K5
      try simp only [Act.put, List.setIfInBounds_toArray, List.set_cons_zero, List.set_cons_succ]
      refine wpAnyH_ready (rs := [5]) (by kernel_rfl) (by simp) ?_
      refine AllReadyH.cons (o := { dst := some 38, op := Go.Op.call { callee := Go.Callee.value (Go.Operand.func 7), args := #[Go.Operand.tmp 37], argTypes := #[22] }, type := 25, pos := "law.go:33", after := #[{ on := 4, ground := Go.Ground.data }], guard := none }) rfl (fun K5 hK5 => ?_) AllReadyH.nil
      go_simp
      refine (sum2_any _ _ lin8 lin1 lin9 lin7 w5.drew).mono ?_
      rintro e w6 ⟨rfl, n6⟩
      refine hK5.out _ _ ⟨hH1.1.trans n6, hH1.2.1.new n6, hH1.2.2.new n6⟩ (fun hH3 => ?_)
      clear hK5 K5
      try simp only [Act.put, List.setIfInBounds_toArray, List.set_cons_zero, List.set_cons_succ]
      have bA2 := Box.new bA n6
      refine wpAnyH_ready (rs := [6]) (by kernel_rfl) (by simp) ?_
      refine AllReadyH.cons (o := { dst := none, op := Go.Op.store 25 (Go.Operand.tmp 5) (Go.Operand.tmp 38), type := 0, pos := "law.go:33", after := #[{ on := 5, ground := Go.Ground.data }, { on := 5, ground := Go.Ground.chain }, { on := 0, ground := Go.Ground.phase }, { on := 1, ground := Go.Ground.phase }, { on := 2, ground := Go.Ground.phase }, { on := 3, ground := Go.Ground.phase }, { on := 4, ground := Go.Ground.phase }, { on := 5, ground := Go.Ground.phase }], guard := none }) rfl (fun K5 hK5 => ?_) AllReadyH.nil
      rw [if_pos (by rfl)]
      refine wp_stb (x := .tmp 5) (y := .tmp 38) rfl rfl rfl bA2 ?_
      refine hK5.out _ _ ⟨New.st4 hH3.1 (by omega) _ _, hH3.2.1.st4 (by omega) _ _, MapL.st4 hH3.2.2 (by omega) _ _⟩ (fun hH4 => ?_)
      clear hK5 K5
      try simp only [Act.put, List.setIfInBounds_toArray, List.set_cons_zero, List.set_cons_succ]
      refine wpAnyH_done (by kernel_rfl) ?_ _
      have hG := (⟨hH4.1, hH4.2.1, hH4.2.2, put_box bA2 (pl (foldK (fun q => accL z (kP z q) n) k) (accL z (kP z k) n))⟩ : _ ∧ _ ∧ _ ∧ _)
      clear hH4 hH3 hH2 hH1 hH bA bA2
      have HF := Lib.hid hG
      clear hG
      go_wp2_with fail
      go_roundg (gk - 1)
      case rel =>
        obtain ⟨h1, h2, h3, h4⟩ := HF.out
        exact ⟨k + 1, by omega, by go_num, h1, h2, h3, h4⟩
      case measure => omega
    · have hke : k = 8 := by omega
      subst hke
      rw [HKA.out] at ba
      have HBK := Lib.hid bk
      obtain ⟨OB, hOB⟩ : ∃ OB, wr.heap.size = OB := ⟨_, rfl⟩
      clear bk hM2
      go_wp2_with fail
      have HOB := Lib.hid hOB
      have hlw := nw.lt
      have laB := ba.lt
      rw [hOB] at hlw laB
      go_loopg [7, 9] n (fun g s i wr2 => ∃ k : Nat, k + g = n ∧ i = .int .i64 k ∧ s = .int .i64 (manyW z k : Nat) ∧ New w wr2 ∧ MapL wr2 b n (fun q => accL z (wP z q) n) (manyW z n) ∧ Box wr2 (w2.heap.size + 1) 25 (accL z (fun _ => true) n).cs ∧ Box wr2 OB 25 (foldW z (fun q => accL z (wP z q) n) k).cs)
      case atStart =>
        exact ⟨0, by omega, rfl, rfl, nw.alloc _, hM.new ((New.refl _).alloc _), ba.alloc _, Box.made' wr 25 _ HOB.out.symm⟩
      case round =>
        obtain ⟨k, hk, rfl, rfl, nw2, hM2, ba2, bo⟩ := hrel
        have lo := bo.lt
        have la := ba2.lt
        have hne : w2.heap.size + 1 ≠ OB := by omega
        by_cases hlt : k < n
        · obtain ⟨ad, rfl, hc⟩ := HX.out.2 (by omega)
          have hR := HX.out.1 k hlt
          have LA := (hc k hlt).new nw2
          have c0 := LA.2.2 0 _ hR.2.2.1
          rw [show ((ad.add (k * 19)).add 0) = ad.add (k * 19) by unfold Addr.add; simp] at c0
          have he := hR.2.1.1
          have HWk := Lib.hid (fun w' (m : New w w') => HW.out n (Nat.le_refl _) (z k).who w' m)
          have HWp := Lib.hid (fun w' (m : New w w') => HW.out k (by omega) (z k).who w' m)
          have lin1 := HLA.out (wP z (z k).who)
          have lin8 := HLF.out k
          have lin9 : ((k : Int) * (n : Int)) ≤ 1000000 := by
            have := Int.mul_le_mul (show (k : Int) ≤ 60 by omega) (show (n : Int) ≤ 60 by omega) (by omega) (by omega)
            omega
          have lin7 : (n : Int) ≤ 1000000 := by omega
          have hmany := manyW_le z k
          have HFK := Lib.hid (show foldW z (fun q => accL z (wP z q) n) (k + 1) = if newW z k = true then pl (foldW z (fun q => accL z (wP z q) n) k) (accL z (wP z (z k).who) n) else foldW z (fun q => accL z (wP z q) n) k from rfl)
          have HMK := Lib.hid (show manyW z (k + 1) = manyW z k + if newW z k = true then 1 else 0 from rfl)
          have HNW := Lib.hid (show newW z k = ((sel (wP z (z k).who) k).length == 0) from rfl)
          have HLL := Lib.hid (⟨hc, hR, LA⟩ : _ ∧ _ ∧ _)
          clear hc hR LA
          go_wp2_with (first | (go_at_call 16; refine (HWk.out _ nw2).mono ?_; rintro e w3 ⟨A3, c3, rfl, O3, n3⟩; have N3 := nw2.trans n3))
          refine wp_region_held_drew (S := (fun w' => New w w' ∧ MapL w' b n (fun q => accL z (wP z q) n) (manyW z n) ∧ Box w' (w2.heap.size + 1) 25 (accL z (fun _ => true) n).cs ∧ Box w' OB 25 (foldW z (fun q => accL z (wP z q) n) k).cs)) (by kernel_rfl) ⟨N3.drew, (hM2.new n3).new (New.refl _).drew, (ba2.new n3).draws 1, (bo.new n3).draws 1⟩ (fun hH => ?_)
          refine wpAnyH_take (i := 0) (oi := { dst := some 54, op := Go.Op.move (Go.Operand.tmp 4), type := 55, pos := "law.go:40", after := #[], guard := none }) (v := ?_) rfl (by kernel_rfl) (by kernel_rfl) (by kernel_rfl) (fun _ _ _ h => h) (Or.inl ⟨by rfl, ?_⟩) hH ?_
          rotate_left; (intro w5 hS5; go_simp; try rfl)
          try simp only [Act.put, List.setIfInBounds_toArray, List.set_cons_zero, List.set_cons_succ]
          refine wpAnyH_take (i := 1) (oi := { dst := some 55, op := Go.Op.move (Go.Operand.tmp 10), type := 3, pos := "law.go:40", after := #[], guard := none }) (v := ?_) rfl (by kernel_rfl) (by kernel_rfl) (by kernel_rfl) (fun _ _ _ h => h) (Or.inl ⟨by rfl, ?_⟩) hH ?_
          rotate_left; (intro w5 hS5; go_simp; try rfl)
          try simp only [Act.put, List.setIfInBounds_toArray, List.set_cons_zero, List.set_cons_succ]
          refine wpAnyH_take (i := 2) (oi := { dst := some 56, op := Go.Op.lookup 55 (Go.Operand.tmp 54) (Go.Operand.tmp 55) false, type := 25, pos := "law.go:40", after := #[{ on := 0, ground := Go.Ground.data }, { on := 1, ground := Go.Ground.data }], guard := none }) (v := (accL z (wP z (z k).who) n).agg) rfl (by kernel_rfl) (by kernel_rfl) (by kernel_rfl) (fun _ _ _ h => h) (Or.inl ⟨by rfl, ?_⟩) hH ?_
          (intro w5 hS5; refine lk_op (by rfl) ?_ ?_ (MapL.look hS5.2.1 he) <;> rfl)
          try simp only [Act.put, List.setIfInBounds_toArray, List.set_cons_zero, List.set_cons_succ]
          refine wpAnyH_take (i := 3) (oi := { dst := some 57, op := Go.Op.move (Go.Operand.tmp 11), type := 28, pos := "law.go:40", after := #[], guard := none }) (v := ?_) rfl (by kernel_rfl) (by kernel_rfl) (by kernel_rfl) (fun _ _ _ h => h) (Or.inl ⟨by rfl, ?_⟩) hH ?_
          rotate_left; (intro w5 hS5; go_simp; try rfl)
          try simp only [Act.put, List.setIfInBounds_toArray, List.set_cons_zero, List.set_cons_succ]
          refine wpAnyH_ready (rs := [4]) (by kernel_rfl) (by simp) ?_
          refine AllReadyH.cons (o := { dst := some 58, op := Go.Op.call { callee := Go.Callee.value (Go.Operand.func 12), args := #[Go.Operand.tmp 57], argTypes := #[28] }, type := 50, pos := "law.go:40", after := #[{ on := 3, ground := Go.Ground.data }], guard := none }) rfl (fun K5 hK5 => ?_) AllReadyH.nil
          go_simp
          refine (HOS.out A3 c3 (wP z (z k).who) w3.drew (O3.new (New.refl _).drew)).mono ?_
          rintro e w4 ⟨rfl, n4⟩
          refine hK5.out _ _ ⟨hH.1.trans n4, hH.2.1.new n4, hH.2.2.1.new n4, hH.2.2.2.new n4⟩ (fun hH2 => ?_)
          clear hK5 K5
          try simp only [Act.put, List.setIfInBounds_toArray, List.set_cons_zero, List.set_cons_succ]
          refine wpAnyH_ready (rs := [5]) (by kernel_rfl) (by simp) ?_
          refine AllReadyH.cons (o := { dst := some 59, op := Go.Op.call { callee := Go.Callee.value (Go.Operand.func 15), args := #[Go.Operand.tmp 56, Go.Operand.tmp 58], argTypes := #[25, 50] }, type := 4, pos := "law.go:40", after := #[{ on := 2, ground := Go.Ground.data }, { on := 4, ground := Go.Ground.data }, { on := 4, ground := Go.Ground.chain }], guard := none }) rfl (fun K5 hK5 => ?_) AllReadyH.nil
          go_simp
          refine (HSM.out (accL z (wP z (z k).who) n) w4).mono ?_
          rintro e w5 ⟨rfl, n5⟩
          refine hK5.out _ _ ⟨hH2.1.trans n5, hH2.2.1.new n5, hH2.2.2.1.new n5, hH2.2.2.2.new n5⟩ (fun hH3 => ?_)
          clear hK5 K5
          try simp only [Act.put, List.setIfInBounds_toArray, List.set_cons_zero, List.set_cons_succ]
          refine wpAnyH_take (i := 6) (oi := { dst := some 60, op := Go.Op.unOp Go.UnOp.not 4 (Go.Operand.tmp 59), type := 4, pos := "law.go:40", after := #[{ on := 5, ground := Go.Ground.data }], guard := none }) (v := ?_) rfl (by kernel_rfl) (by kernel_rfl) (by kernel_rfl) (fun _ _ _ h => h) (Or.inl ⟨by rfl, ?_⟩) hH3 ?_
          rotate_left; (intro w5 hS5; go_simp; try rfl)
          try simp only [Act.put, List.setIfInBounds_toArray, List.set_cons_zero, List.set_cons_succ]
          refine wpAnyH_done (by kernel_rfl) ?_ _
          have hG := hH3
          clear hH hH2 hH3
          have HG := Lib.hid hG
          have lo5 := hG.2.2.2.lt
          clear hG
          by_cases hz : (sel (wP z (z k).who) k).length = 0
          · have tz : ((((sel (wP z (z k).who) k).length : Nat) : Int) == 0) = true := by simpa using hz
            have hnw : newW z k = true := by rw [HNW.out]; simpa using hz
            rw [hnw, if_pos rfl] at HFK HMK
            clear hz
            have wm : wrap64 ((manyW z k : Int) + 1) = (manyW z k : Int) + 1 := by unfold wrap64; omega
            go_wp2_with (first | (go_at_call 16; refine (HWp.out _ HG.out.1).mono ?_; rintro e w6 ⟨A6, c6, rfl, O6, n6⟩; have b6 := HG.out.2.2.2.new n6; have M6 := HG.out.2.1.new n6; have B6 := Lib.hid b6; have MM6 := Lib.hid M6; have HN6 := Lib.hid (⟨HG.out.1.trans n6, HG.out.2.2.1.new n6⟩ : _ ∧ _); clear b6 M6 O6) | (refine wpl_ld4 rfl rfl rfl (At4.box B6.out) ?_) | (refine wpl_lookL rfl rfl rfl rfl MM6.out he ?_) | (refine wpl_build2 rfl rfl rfl rfl ?_) | (go_at_call 7; refine (sum2_any _ _ lin8 lin1 lin9 lin7 w6).mono ?_; rintro e w7 ⟨rfl, n7⟩; have b7 := Lib.hid (B6.out.new n7); have N7 := Lib.hid n7) | (refine wpl_stb rfl rfl rfl rfl b7.out ?_))
            go_roundg (gk - 1)
            case rel =>
              refine ⟨k + 1, by omega, by go_num, by rw [HMK.out]; go_num, New.st4 (HN6.out.1.trans N7.out) (by omega) _ _, MapL.st4 (MM6.out.new N7.out) (by omega) _ _, (HN6.out.2.new N7.out).st4 (by omega) _ _, ?_⟩
              rw [HFK.out]
              exact put_box b7.out _
            case measure => omega
          · have tz : ((((sel (wP z (z k).who) k).length : Nat) : Int) == 0) = false := by simpa using hz
            have hnw : newW z k = false := by rw [HNW.out]; simpa using hz
            rw [hnw, if_neg (by decide)] at HFK HMK
            clear hz
            go_wp2_with (first | (go_at_call 16; refine (HWp.out _ HG.out.1).mono ?_; rintro e w6 ⟨A6, c6, rfl, O6, n6⟩; have HN6 := Lib.hid (⟨HG.out.1.trans n6, HG.out.2.2.1.new n6, HG.out.2.2.2.new n6, HG.out.2.1.new n6⟩ : _ ∧ _ ∧ _ ∧ _); clear O6))
            go_roundg (gk - 1)
            case rel =>
              obtain ⟨h1, h2, h3, h4⟩ := HN6.out
              exact ⟨k + 1, by omega, by go_num, by rw [HMK.out, Nat.add_zero], h1, h4, h2, by rw [HFK.out]; exact h3⟩
            case measure => omega
        · have hke : k = n := by omega
          subst hke
          rw [HCA.out] at bo
          have la := ba2.lt
          clear ba lo
          go_wp2_with fail
          refine wp_region_held_drew (S := (fun w' => New w w' ∧ MapL w' b k (fun q => accL z (wP z q) k) (manyW z k) ∧ Box w' (w2.heap.size + 1) 25 (accL z (fun _ => true) k).cs ∧ Box w' OB 25 (accL z (fun _ => true) k).cs)) (by kernel_rfl) ⟨nw2.drew, hM2.new (New.refl _).drew, ba2.draws 1, bo.draws 1⟩ (fun hH => ?_)
          refine wpAnyH_take (i := 0) (oi := { dst := some 76, op := Go.Op.move (Go.Operand.tmp 7), type := 3, pos := "law.go:48", after := #[], guard := none }) (v := ?_) rfl (by kernel_rfl) (by kernel_rfl) (by kernel_rfl) (fun _ _ _ h => h) (Or.inl ⟨by rfl, ?_⟩) hH ?_
          rotate_left; (intro w5 hS5; go_simp; try rfl)
          try simp only [Act.put, List.setIfInBounds_toArray, List.set_cons_zero, List.set_cons_succ]
          refine wpAnyH_take (i := 1) (oi := { dst := some 77, op := Go.Op.move (Go.Operand.tmp 4), type := 55, pos := "law.go:48", after := #[], guard := none }) (v := ?_) rfl (by kernel_rfl) (by kernel_rfl) (by kernel_rfl) (fun _ _ _ h => h) (Or.inl ⟨by rfl, ?_⟩) hH ?_
          rotate_left; (intro w5 hS5; go_simp; try rfl)
          try simp only [Act.put, List.setIfInBounds_toArray, List.set_cons_zero, List.set_cons_succ]
          refine wpAnyH_take (i := 2) (oi := { dst := some 78, op := Go.Op.call { callee := Go.Callee.builtin Go.Builtin.len, args := #[Go.Operand.tmp 77], argTypes := #[55] }, type := 3, pos := "law.go:48", after := #[{ on := 1, ground := Go.Ground.data }], guard := none }) (v := .int .i64 (manyW z k : Nat)) rfl (by kernel_rfl) (by kernel_rfl) (by kernel_rfl) (fun _ _ _ h => h) (Or.inl ⟨by rfl, ?_⟩) hH ?_
          (intro w5 hS5; exact len_op (by rfl) (by rfl) (MapL.len hS5.2.1))
          try simp only [Act.put, List.setIfInBounds_toArray, List.set_cons_zero, List.set_cons_succ]
          refine wpAnyH_take (i := 3) (oi := { dst := some 79, op := Go.Op.binOp Go.BinOp.eql 3 (Go.Operand.tmp 76) (Go.Operand.tmp 78) 3, type := 4, pos := "law.go:48", after := #[{ on := 0, ground := Go.Ground.data }, { on := 2, ground := Go.Ground.data }], guard := none }) (v := ?_) rfl (by kernel_rfl) (by kernel_rfl) (by kernel_rfl) (fun _ _ _ h => h) (Or.inl ⟨by rfl, ?_⟩) hH ?_
          rotate_left; (intro w5 hS5; go_simp; try rfl)
          try simp only [Act.put, List.setIfInBounds_toArray, List.set_cons_zero, List.set_cons_succ]
          refine wpAnyH_take (i := 4) (oi := { dst := some 80, op := Go.Op.move (Go.Operand.tmp 79), type := 4, pos := "law.go:48", after := #[{ on := 3, ground := Go.Ground.data }, { on := 2, ground := Go.Ground.chain }], guard := none }) (v := ?_) rfl (by kernel_rfl) (by kernel_rfl) (by kernel_rfl) (fun _ _ _ h => h) (Or.inl ⟨by rfl, ?_⟩) hH ?_
          rotate_left; (intro w5 hS5; go_simp; try rfl)
          try simp only [Act.put, List.setIfInBounds_toArray, List.set_cons_zero, List.set_cons_succ]
          refine wpAnyH_take (i := 5) (oi := { dst := some 81, op := Go.Op.load 25 (Go.Operand.tmp 5), type := 25, pos := "law.go:48", after := #[{ on := 4, ground := Go.Ground.guard }], guard := some (4, true) }) (v := (accL z (fun _ => true) k).agg) rfl (by kernel_rfl) (by kernel_rfl) (by kernel_rfl) (fun _ _ _ h => h) (Or.inl ⟨by rfl, ?_⟩) hH ?_
          (intro w5 hS5; refine ld_op (x := .tmp 5) (by rfl) ?_ (At4.box hS5.2.2.1) <;> rfl)
          try simp only [Act.put, List.setIfInBounds_toArray, List.set_cons_zero, List.set_cons_succ]
          refine wpAnyH_take (i := 6) (oi := { dst := some 82, op := Go.Op.move (Go.Operand.tmp 0), type := 28, pos := "law.go:48", after := #[{ on := 4, ground := Go.Ground.guard }], guard := some (4, true) }) (v := ?_) rfl (by kernel_rfl) (by kernel_rfl) (by kernel_rfl) (fun _ _ _ h => h) (Or.inl ⟨by rfl, ?_⟩) hH ?_
          rotate_left; (intro w5 hS5; go_simp; try rfl)
          try simp only [Act.put, List.setIfInBounds_toArray, List.set_cons_zero, List.set_cons_succ]
          refine wpAnyH_ready (rs := [7]) (by kernel_rfl) (by simp) ?_
          refine AllReadyH.cons (o := { dst := some 83, op := Go.Op.call { callee := Go.Callee.value (Go.Operand.func 12), args := #[Go.Operand.tmp 82], argTypes := #[28] }, type := 50, pos := "law.go:48", after := #[{ on := 6, ground := Go.Ground.data }, { on := 4, ground := Go.Ground.chain }, { on := 4, ground := Go.Ground.guard }], guard := some (4, true) }) rfl (fun K5 hK5 => ?_) AllReadyH.nil
          go_simp
          refine (HO.out _ hH.1).mono ?_
          rintro e w4 ⟨rfl, n4⟩
          refine hK5.out _ _ ⟨hH.1.trans n4, hH.2.1.new n4, hH.2.2.1.new n4, hH.2.2.2.new n4⟩ (fun hH1 => ?_)
          clear hK5 K5
          try simp only [Act.put, List.setIfInBounds_toArray, List.set_cons_zero, List.set_cons_succ]
          refine wpAnyH_ready (rs := [8]) (by kernel_rfl) (by simp) ?_
          refine AllReadyH.cons (o := { dst := some 84, op := Go.Op.call { callee := Go.Callee.value (Go.Operand.func 15), args := #[Go.Operand.tmp 81, Go.Operand.tmp 83], argTypes := #[25, 50] }, type := 4, pos := "law.go:48", after := #[{ on := 5, ground := Go.Ground.data }, { on := 7, ground := Go.Ground.data }, { on := 7, ground := Go.Ground.chain }, { on := 4, ground := Go.Ground.guard }], guard := some (4, true) }) rfl (fun K5 hK5 => ?_) AllReadyH.nil
          go_simp
          refine (HSM.out (accL z (fun _ => true) k) w4).mono ?_
          rintro e w5 ⟨rfl, n5⟩
          refine hK5.out _ _ ⟨hH1.1.trans n5, hH1.2.1.new n5, hH1.2.2.1.new n5, hH1.2.2.2.new n5⟩ (fun hH2 => ?_)
          clear hK5 K5
          try simp only [Act.put, List.setIfInBounds_toArray, List.set_cons_zero, List.set_cons_succ]
          refine wpAnyH_take (i := 9) (oi := { dst := some 85, op := Go.Op.pick (Go.Operand.tmp 80) (Go.Operand.tmp 84) (Go.Operand.const (Go.Value.bool false)), type := 4, pos := "law.go:48", after := #[{ on := 4, ground := Go.Ground.data }, { on := 8, ground := Go.Ground.data }], guard := none }) (v := ?_) rfl (by kernel_rfl) (by kernel_rfl) (by kernel_rfl) (fun _ _ _ h => h) (Or.inl ⟨by rfl, ?_⟩) hH2 ?_
          rotate_left; (intro w5 hS5; go_simp; try rfl)
          try simp only [Act.put, List.setIfInBounds_toArray, List.set_cons_zero, List.set_cons_succ]
          refine wpAnyH_take (i := 10) (oi := { dst := some 86, op := Go.Op.move (Go.Operand.tmp 85), type := 4, pos := "law.go:48", after := #[{ on := 9, ground := Go.Ground.data }, { on := 8, ground := Go.Ground.chain }], guard := none }) (v := ?_) rfl (by kernel_rfl) (by kernel_rfl) (by kernel_rfl) (fun _ _ _ h => h) (Or.inl ⟨by rfl, ?_⟩) hH2 ?_
          rotate_left; (intro w5 hS5; go_simp; try rfl)
          try simp only [Act.put, List.setIfInBounds_toArray, List.set_cons_zero, List.set_cons_succ]
          refine wpAnyH_take (i := 11) (oi := { dst := some 87, op := Go.Op.load 25 (Go.Operand.tmp 8), type := 25, pos := "law.go:48", after := #[{ on := 10, ground := Go.Ground.guard }], guard := some (10, true) }) (v := (accL z (fun _ => true) k).agg) rfl (by kernel_rfl) (by kernel_rfl) (by kernel_rfl) (fun _ _ _ h => h) (Or.inl ⟨by rfl, ?_⟩) hH2 ?_
          (intro w5 hS5; refine ld_op (x := .tmp 8) (by rfl) ?_ (At4.box hS5.2.2.2) <;> rfl)
          try simp only [Act.put, List.setIfInBounds_toArray, List.set_cons_zero, List.set_cons_succ]
          refine wpAnyH_take (i := 12) (oi := { dst := some 88, op := Go.Op.move (Go.Operand.tmp 0), type := 28, pos := "law.go:48", after := #[{ on := 10, ground := Go.Ground.guard }], guard := some (10, true) }) (v := ?_) rfl (by kernel_rfl) (by kernel_rfl) (by kernel_rfl) (fun _ _ _ h => h) (Or.inl ⟨by rfl, ?_⟩) hH2 ?_
          rotate_left; (intro w5 hS5; go_simp; try rfl)
          try simp only [Act.put, List.setIfInBounds_toArray, List.set_cons_zero, List.set_cons_succ]
          refine wpAnyH_ready (rs := [13]) (by kernel_rfl) (by simp) ?_
          refine AllReadyH.cons (o := { dst := some 89, op := Go.Op.call { callee := Go.Callee.value (Go.Operand.func 12), args := #[Go.Operand.tmp 88], argTypes := #[28] }, type := 50, pos := "law.go:48", after := #[{ on := 12, ground := Go.Ground.data }, { on := 10, ground := Go.Ground.chain }, { on := 10, ground := Go.Ground.guard }], guard := some (10, true) }) rfl (fun K5 hK5 => ?_) AllReadyH.nil
          go_simp
          refine (HO.out _ hH2.1).mono ?_
          rintro e w6 ⟨rfl, n6⟩
          refine hK5.out _ _ ⟨hH2.1.trans n6, hH2.2.1.new n6, hH2.2.2.1.new n6, hH2.2.2.2.new n6⟩ (fun hH3 => ?_)
          clear hK5 K5
          try simp only [Act.put, List.setIfInBounds_toArray, List.set_cons_zero, List.set_cons_succ]
          refine wpAnyH_ready (rs := [14]) (by kernel_rfl) (by simp) ?_
          refine AllReadyH.cons (o := { dst := some 90, op := Go.Op.call { callee := Go.Callee.value (Go.Operand.func 15), args := #[Go.Operand.tmp 87, Go.Operand.tmp 89], argTypes := #[25, 50] }, type := 4, pos := "law.go:48", after := #[{ on := 11, ground := Go.Ground.data }, { on := 13, ground := Go.Ground.data }, { on := 13, ground := Go.Ground.chain }, { on := 10, ground := Go.Ground.guard }], guard := some (10, true) }) rfl (fun K5 hK5 => ?_) AllReadyH.nil
          go_simp
          refine (HSM.out (accL z (fun _ => true) k) w6).mono ?_
          rintro e w7 ⟨rfl, n7⟩
          refine hK5.out _ _ ⟨hH3.1.trans n7, hH3.2.1.new n7, hH3.2.2.1.new n7, hH3.2.2.2.new n7⟩ (fun hH4 => ?_)
          clear hK5 K5
          try simp only [Act.put, List.setIfInBounds_toArray, List.set_cons_zero, List.set_cons_succ]
          refine wpAnyH_take (i := 15) (oi := { dst := some 91, op := Go.Op.pick (Go.Operand.tmp 86) (Go.Operand.tmp 90) (Go.Operand.const (Go.Value.bool false)), type := 4, pos := "law.go:48", after := #[{ on := 10, ground := Go.Ground.data }, { on := 14, ground := Go.Ground.data }], guard := none }) (v := ?_) rfl (by kernel_rfl) (by kernel_rfl) (by kernel_rfl) (fun _ _ _ h => h) (Or.inl ⟨by rfl, ?_⟩) hH4 ?_
          rotate_left; (intro w5 hS5; go_simp; try rfl)
          try simp only [Act.put, List.setIfInBounds_toArray, List.set_cons_zero, List.set_cons_succ]
          refine wpAnyH_take (i := 16) (oi := { dst := some 92, op := Go.Op.move (Go.Operand.tmp 91), type := 4, pos := "law.go:48", after := #[{ on := 15, ground := Go.Ground.data }, { on := 14, ground := Go.Ground.chain }], guard := none }) (v := ?_) rfl (by kernel_rfl) (by kernel_rfl) (by kernel_rfl) (fun _ _ _ h => h) (Or.inl ⟨by rfl, ?_⟩) hH4 ?_
          rotate_left; (intro w5 hS5; go_simp; try rfl)
          try simp only [Act.put, List.setIfInBounds_toArray, List.set_cons_zero, List.set_cons_succ]
          refine wpAnyH_ready (rs := [17]) (by kernel_rfl) (by simp) ?_
          refine AllReadyH.cons (o := { dst := some 93, op := Go.Op.call { callee := Go.Callee.value (Go.Operand.func 6), args := #[], argTypes := #[] }, type := 4, pos := "law.go:48", after := #[{ on := 16, ground := Go.Ground.chain }, { on := 16, ground := Go.Ground.guard }], guard := some (16, true) }) rfl (fun K5 hK5 => ?_) AllReadyH.nil
          go_simp
          refine (HL.out _).mono ?_
          rintro e w8 ⟨rfl, n8⟩
          refine hK5.out _ _ ⟨hH4.1.trans n8, hH4.2.1.new n8, hH4.2.2.1.new n8, hH4.2.2.2.new n8⟩ (fun hH5 => ?_)
          clear hK5 K5
          try simp only [Act.put, List.setIfInBounds_toArray, List.set_cons_zero, List.set_cons_succ]
          refine wpAnyH_take (i := 18) (oi := { dst := some 94, op := Go.Op.pick (Go.Operand.tmp 92) (Go.Operand.tmp 93) (Go.Operand.const (Go.Value.bool false)), type := 4, pos := "law.go:48", after := #[{ on := 16, ground := Go.Ground.data }, { on := 17, ground := Go.Ground.data }], guard := none }) (v := ?_) rfl (by kernel_rfl) (by kernel_rfl) (by kernel_rfl) (fun _ _ _ h => h) (Or.inl ⟨by rfl, ?_⟩) hH5 ?_
          rotate_left; (intro w5 hS5; go_simp; try rfl)
          try simp only [Act.put, List.setIfInBounds_toArray, List.set_cons_zero, List.set_cons_succ]
          refine wpAnyH_take (i := 19) (oi := { dst := some 2, op := Go.Op.assign (Go.Operand.tmp 94), type := 4, pos := "law.go:48", after := #[{ on := 18, ground := Go.Ground.data }, { on := 17, ground := Go.Ground.chain }, { on := 0, ground := Go.Ground.phase }, { on := 1, ground := Go.Ground.phase }, { on := 2, ground := Go.Ground.phase }, { on := 3, ground := Go.Ground.phase }, { on := 4, ground := Go.Ground.phase }, { on := 5, ground := Go.Ground.phase }, { on := 6, ground := Go.Ground.phase }, { on := 7, ground := Go.Ground.phase }, { on := 8, ground := Go.Ground.phase }, { on := 9, ground := Go.Ground.phase }, { on := 10, ground := Go.Ground.phase }, { on := 11, ground := Go.Ground.phase }, { on := 12, ground := Go.Ground.phase }, { on := 13, ground := Go.Ground.phase }, { on := 14, ground := Go.Ground.phase }, { on := 15, ground := Go.Ground.phase }, { on := 16, ground := Go.Ground.phase }, { on := 17, ground := Go.Ground.phase }, { on := 18, ground := Go.Ground.phase }], guard := none }) (v := ?_) rfl (by kernel_rfl) (by kernel_rfl) (by kernel_rfl) (fun _ _ _ h => h) (Or.inl ⟨by rfl, ?_⟩) hH5 ?_
          rotate_left; (intro w5 hS5; go_simp; try rfl)
          try simp only [Act.put, List.setIfInBounds_toArray, List.set_cons_zero, List.set_cons_succ]
          refine wpAnyH_done (by kernel_rfl) ?_ _
          have hG := hH5
          clear hH hH1 hH2 hH3 hH4 hH5
          go_wp2_with fail
          exact bodyPost_ret (v := .bool true) (by simp [results, Try.results5, go_sem]) rfl ⟨rfl, hG.1⟩
end Go.Proofs.Ytplejooihfhpdaa
