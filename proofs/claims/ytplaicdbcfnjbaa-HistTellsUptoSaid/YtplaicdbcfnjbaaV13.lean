/- The reference's One: two calls are the same. -/
import Derived.Test.YtplaicdbcfnjbaaV05
set_option linter.unusedSimpArgs false
set_option linter.unusedVariables false
namespace Go.Proofs.Ytplaicdbcfnjbaa
open Go.RowKit
set_option linter.unusedVariables false

set_option maxRecDepth 100000 in
set_option maxHeartbeats 4000000 in
theorem one_any (f : Nat) (a b : OD) (w : World) (hA : IsO w f a) (hB : IsO w f b) :
    Calls Try.prog 11 #[.agg (ocs a), .agg (ocs b)] w fun e w' => e = .returned (.bool (oneO f a b)) ∧ New w w' := by
  have HX := Lib.hid (fun w' (m : New w w') => req_any a.nx b.nx a.x b.x a.X a.cx b.X b.cx w' (hA.x.new m) (hB.x.new m))
  have HT := Lib.hid (fun w' (m : New w w') => ralike_any f a.td b.td a.A a.ca a.Y a.cy b.A b.ca b.Y b.cy w' (hA.t.new m) (hB.t.new m))
  have hr : oneO f a b = (eq2 a.r0 a.r1 b.r0 b.r1 && (a.s == b.s) && (a.e == b.e) && (a.kd == b.kd) && eq2 a.k0 a.k1 b.k0 b.k1 && (a.tx.toList == b.tx.toList) && eq2 a.o0 a.o1 b.o0 b.o1 && eqR a.nx b.nx a.x b.x && alikeT f a.td b.td) := rfl
  clear hA hB
  have LA := Lib.hid (fun (w' : World) (g : Nat) (h : Box w' g 36 (ocs a)) => lda_told h)
  have LB := Lib.hid (fun (w' : World) (g : Nat) (h : Box w' g 36 (ocs b)) => lda_told h)
  have q1 := fun w => eql23 a.r0 a.r1 b.r0 b.r1 w
  have q2 := fun w => eql25 a.k0 a.k1 b.k0 b.k1 w
  have q3 := fun w => eql23 a.o0 a.o1 b.o0 b.o1 w
  have FA : (ocs a)[0]? = some (.int .i64 a.r0) ∧ (ocs a)[1]? = some (.int .i64 a.r1) ∧ (ocs a)[2]? = some (.int .i64 a.kd) ∧ (ocs a)[3]? = some (.int .i64 a.k0) ∧ (ocs a)[4]? = some (.int .i64 a.k1) ∧ (ocs a)[5]? = some (.string a.tx) ∧ (ocs a)[6]? = some (.int .i64 a.o0) ∧ (ocs a)[7]? = some (.int .i64 a.o1) ∧ (ocs a)[8]? = some (.slice a.X a.nx a.cx) ∧ (ocs a)[17]? = some (.int .i64 a.s) ∧ (ocs a)[18]? = some (.int .i64 a.e) := ⟨rfl, rfl, rfl, rfl, rfl, rfl, rfl, rfl, rfl, rfl, rfl⟩
  have FB : (ocs b)[0]? = some (.int .i64 b.r0) ∧ (ocs b)[1]? = some (.int .i64 b.r1) ∧ (ocs b)[2]? = some (.int .i64 b.kd) ∧ (ocs b)[3]? = some (.int .i64 b.k0) ∧ (ocs b)[4]? = some (.int .i64 b.k1) ∧ (ocs b)[5]? = some (.string b.tx) ∧ (ocs b)[6]? = some (.int .i64 b.o0) ∧ (ocs b)[7]? = some (.int .i64 b.o1) ∧ (ocs b)[8]? = some (.slice b.X b.nx b.cx) ∧ (ocs b)[17]? = some (.int .i64 b.s) ∧ (ocs b)[18]? = some (.int .i64 b.e) := ⟨rfl, rfl, rfl, rfl, rfl, rfl, rfl, rfl, rfl, rfl, rfl⟩
  generalize ocs a = ra at *
  generalize ocs b = rb at *
  obtain ⟨a0, a1, a2, a3, a4, a5, a6, a7, a8, a17, a18⟩ := FA
  obtain ⟨b0, b1, b2, b3, b4, b5, b6, b7, b8, b17, b18⟩ := FB
  generalize tcs a.td a.A a.ca a.Y a.cy = ta at *
  generalize tcs b.td b.A b.ca b.Y b.cy = tb at *
  generalize oneO f a b = R at *
  generalize eqR a.nx b.nx a.x b.x = SX at *
  generalize alikeT f a.td b.td = ST at *
  generalize eq2 a.r0 a.r1 b.r0 b.r1 = B1 at *
  generalize eq2 a.k0 a.k1 b.k0 b.k1 = B5 at *
  generalize eq2 a.o0 a.o1 b.o0 b.o1 = B7 at *
  obtain ⟨ar0, ar1, akd, ak0, ak1, atx, ao0, ao1, anx, ax, aX, acx, atd, aA, aca, aY, acy, as_, ae⟩ := a
  obtain ⟨br0, br1, bkd, bk0, bk1, btx, bo0, bo1, bnx, bx, bX, bcx, btd, bA, bca, bY, bcy, bs, be⟩ := b
  simp only [] at *
  clear ax bx atd btd aA aca aY acy bA bca bY bcy
  have HR := Lib.hid hr
  clear hr
  have S0 := Lib.hid (fun w' (m : New ((w.alloc (.cells ra 36)).alloc (.cells rb 36)) w') => (⟨(((Box.made w 36 ra).alloc _).new m), ((Box.made' (w.alloc (.cells _ 36)) 36 rb (by simp)).new m)⟩ : Box w' w.heap.size 36 _ ∧ Box w' (w.heap.size + 1) 36 _))
  have pa0 := Lib.hid a0
  have pb0 := Lib.hid b0
  have pa1 := Lib.hid a1
  have pb1 := Lib.hid b1
  have pa2 := Lib.hid a2
  have pb2 := Lib.hid b2
  have pa3 := Lib.hid a3
  have pb3 := Lib.hid b3
  have pa4 := Lib.hid a4
  have pb4 := Lib.hid b4
  have pa5 := Lib.hid a5
  have pb5 := Lib.hid b5
  have pa6 := Lib.hid a6
  have pb6 := Lib.hid b6
  have pa7 := Lib.hid a7
  have pb7 := Lib.hid b7
  have pa8 := Lib.hid a8
  have pb8 := Lib.hid b8
  have pa17 := Lib.hid a17
  have pb17 := Lib.hid b17
  have pa18 := Lib.hid a18
  have pb18 := Lib.hid b18
  clear a0 a1 a2 a3 a4 a5 a6 a7 a8 a17 a18 b0 b1 b2 b3 b4 b5 b6 b7 b8 b17 b18
  have hq1 := Lib.hid q1
  have hq2 := Lib.hid q2
  have hq3 := Lib.hid q3
  clear q1 q2 q3
  have HW := Lib.hid (show New w ((w.alloc (.cells ra 36)).alloc (.cells rb 36)) from ((New.refl w).alloc _).alloc _)
  cases B1
  · have ca0 := pa0.out
    have cb0 := pb0.out
    have ca1 := pa1.out
    have cb1 := pb1.out
    have rq1 := hq1.out
    have hR : R = false := by rw [HR.out]; simp only [Bool.true_and, Bool.and_false, Bool.false_and]
    subst hR
    go_enter Try.func11, Try.ntmps11
    iterate 17 (first | go_values | go_skip | go_guarded | go_step | go_upon)
    simp only [List.append_eq, List.cons_append, List.nil_append]
    go_wp2
    go_ret
    exact ⟨rfl, HW.out⟩
  by_cases t2 : (as_ == bs) = true
  rotate_left
  · have u2 : (as_ == bs) = false := by simpa using t2
    clear t2
    have ca0 := pa0.out
    have cb0 := pb0.out
    have ca1 := pa1.out
    have cb1 := pb1.out
    have ca17 := pa17.out
    have cb17 := pb17.out
    have rq1 := hq1.out
    have hR : R = false := by rw [HR.out]; simp only [u2, Bool.and_false, Bool.false_and]
    subst hR
    go_enter Try.func11, Try.ntmps11
    iterate 17 (first | go_values | go_skip | go_guarded | go_step | go_upon)
    simp only [List.append_eq, List.cons_append, List.nil_append]
    go_wp2
    go_ret
    exact ⟨rfl, HW.out⟩
  by_cases t3 : (ae == be) = true
  rotate_left
  · have u3 : (ae == be) = false := by simpa using t3
    clear t3
    have ca0 := pa0.out
    have cb0 := pb0.out
    have ca1 := pa1.out
    have cb1 := pb1.out
    have ca17 := pa17.out
    have cb17 := pb17.out
    have ca18 := pa18.out
    have cb18 := pb18.out
    have rq1 := hq1.out
    have hR : R = false := by rw [HR.out]; simp only [u3, t2, Bool.and_false, Bool.false_and]
    subst hR
    go_enter Try.func11, Try.ntmps11
    iterate 17 (first | go_values | go_skip | go_guarded | go_step | go_upon)
    simp only [List.append_eq, List.cons_append, List.nil_append]
    go_wp2
    go_ret
    exact ⟨rfl, HW.out⟩
  by_cases t4 : (akd == bkd) = true
  rotate_left
  · have u4 : (akd == bkd) = false := by simpa using t4
    clear t4
    have ca0 := pa0.out
    have cb0 := pb0.out
    have ca1 := pa1.out
    have cb1 := pb1.out
    have ca17 := pa17.out
    have cb17 := pb17.out
    have ca18 := pa18.out
    have cb18 := pb18.out
    have ca2 := pa2.out
    have cb2 := pb2.out
    have rq1 := hq1.out
    have hR : R = false := by rw [HR.out]; simp only [u4, t2, t3, Bool.and_false, Bool.false_and]
    subst hR
    go_enter Try.func11, Try.ntmps11
    iterate 17 (first | go_values | go_skip | go_guarded | go_step | go_upon)
    simp only [List.append_eq, List.cons_append, List.nil_append]
    go_wp2
    go_ret
    exact ⟨rfl, HW.out⟩
  cases B5
  · have ca0 := pa0.out
    have cb0 := pb0.out
    have ca1 := pa1.out
    have cb1 := pb1.out
    have ca17 := pa17.out
    have cb17 := pb17.out
    have ca18 := pa18.out
    have cb18 := pb18.out
    have ca2 := pa2.out
    have cb2 := pb2.out
    have ca3 := pa3.out
    have cb3 := pb3.out
    have ca4 := pa4.out
    have cb4 := pb4.out
    have rq1 := hq1.out
    have rq2 := hq2.out
    have hR : R = false := by rw [HR.out]; simp only [t2, t3, t4, Bool.and_false, Bool.false_and]
    subst hR
    go_enter Try.func11, Try.ntmps11
    iterate 17 (first | go_values | go_skip | go_guarded | go_step | go_upon)
    simp only [List.append_eq, List.cons_append, List.nil_append]
    go_wp2
    go_ret
    exact ⟨rfl, HW.out⟩
  by_cases t6 : (atx.toList == btx.toList) = true
  rotate_left
  · have u6 : (atx.toList == btx.toList) = false := by simpa using t6
    clear t6
    have ca0 := pa0.out
    have cb0 := pb0.out
    have ca1 := pa1.out
    have cb1 := pb1.out
    have ca17 := pa17.out
    have cb17 := pb17.out
    have ca18 := pa18.out
    have cb18 := pb18.out
    have ca2 := pa2.out
    have cb2 := pb2.out
    have ca3 := pa3.out
    have cb3 := pb3.out
    have ca4 := pa4.out
    have cb4 := pb4.out
    have ca5 := pa5.out
    have cb5 := pb5.out
    have rq1 := hq1.out
    have rq2 := hq2.out
    have hR : R = false := by rw [HR.out]; simp only [u6, t2, t3, t4, Bool.and_false, Bool.false_and]
    subst hR
    go_enter Try.func11, Try.ntmps11
    iterate 17 (first | go_values | go_skip | go_guarded | go_step | go_upon)
    simp only [List.append_eq, List.cons_append, List.nil_append]
    go_wp2
    go_ret
    exact ⟨rfl, HW.out⟩
  cases B7
  · have ca0 := pa0.out
    have cb0 := pb0.out
    have ca1 := pa1.out
    have cb1 := pb1.out
    have ca17 := pa17.out
    have cb17 := pb17.out
    have ca18 := pa18.out
    have cb18 := pb18.out
    have ca2 := pa2.out
    have cb2 := pb2.out
    have ca3 := pa3.out
    have cb3 := pb3.out
    have ca4 := pa4.out
    have cb4 := pb4.out
    have ca5 := pa5.out
    have cb5 := pb5.out
    have ca6 := pa6.out
    have cb6 := pb6.out
    have ca7 := pa7.out
    have cb7 := pb7.out
    have rq1 := hq1.out
    have rq2 := hq2.out
    have rq3 := hq3.out
    have hR : R = false := by rw [HR.out]; simp only [t2, t3, t4, t6, Bool.and_false, Bool.false_and]
    subst hR
    go_enter Try.func11, Try.ntmps11
    iterate 17 (first | go_values | go_skip | go_guarded | go_step | go_upon)
    simp only [List.append_eq, List.cons_append, List.nil_append]
    go_wp2
    go_ret
    exact ⟨rfl, HW.out⟩
  have hR : R = (SX && ST) := by rw [HR.out]; simp only [t2, t3, t4, t6, Bool.true_and]
  have HR2 := Lib.hid hR
  clear hR
  cases SX
  · have ca0 := pa0.out
    have cb0 := pb0.out
    have ca1 := pa1.out
    have cb1 := pb1.out
    have ca17 := pa17.out
    have cb17 := pb17.out
    have ca18 := pa18.out
    have cb18 := pb18.out
    have ca2 := pa2.out
    have cb2 := pb2.out
    have ca3 := pa3.out
    have cb3 := pb3.out
    have ca4 := pa4.out
    have cb4 := pb4.out
    have ca5 := pa5.out
    have cb5 := pb5.out
    have ca6 := pa6.out
    have cb6 := pb6.out
    have ca7 := pa7.out
    have cb7 := pb7.out
    have ca8 := pa8.out
    have cb8 := pb8.out
    have rq1 := hq1.out
    have rq2 := hq2.out
    have rq3 := hq3.out
    have hR : R = false := by rw [HR2.out]; rfl
    subst hR
    go_enter Try.func11, Try.ntmps11
    iterate 17 (first | go_values | go_skip | go_guarded | go_step | go_upon)
    simp only [List.append_eq, List.cons_append, List.nil_append]
    go_wp2_with (first | (go_at_call 27; refine (HX.out _ HW.out).mono ?_; rintro e w9 ⟨rfl, n9⟩; have la := Lib.hid (LA.out _ _ (S0.out _ n9).1); have lb := Lib.hid (LB.out _ _ (S0.out _ n9).2)))
    go_ret
    exact ⟨rfl, HW.out.trans n9⟩
  · have ca0 := pa0.out
    have cb0 := pb0.out
    have ca1 := pa1.out
    have cb1 := pb1.out
    have ca17 := pa17.out
    have cb17 := pb17.out
    have ca18 := pa18.out
    have cb18 := pb18.out
    have ca2 := pa2.out
    have cb2 := pb2.out
    have ca3 := pa3.out
    have cb3 := pb3.out
    have ca4 := pa4.out
    have cb4 := pb4.out
    have ca5 := pa5.out
    have cb5 := pb5.out
    have ca6 := pa6.out
    have cb6 := pb6.out
    have ca7 := pa7.out
    have cb7 := pb7.out
    have ca8 := pa8.out
    have cb8 := pb8.out
    have rq1 := hq1.out
    have rq2 := hq2.out
    have rq3 := hq3.out
    have hR : R = ST := by rw [HR2.out]; rfl
    subst hR
    go_enter Try.func11, Try.ntmps11
    iterate 17 (first | go_values | go_skip | go_guarded | go_step | go_upon)
    simp only [List.append_eq, List.cons_append, List.nil_append]
    go_wp2_with (first | (apply wpl_ld (t := 34) (h := la.out); exact rfl; exact rfl; exact rfl) | (apply wpl_ld (t := 34) (h := lb.out); exact rfl; exact rfl; exact rfl) | (go_at_call 27; refine (HX.out _ HW.out).mono ?_; rintro e w9 ⟨rfl, n9⟩; have la := Lib.hid (LA.out _ _ (S0.out _ n9).1); have lb := Lib.hid (LB.out _ _ (S0.out _ n9).2)) | (go_at_call 28; refine (HT.out _ (HW.out.trans n9)).mono ?_; rintro e w8 ⟨rfl, n8⟩))
    go_ret
    exact ⟨rfl, (HW.out.trans n9).trans n8⟩
end Go.Proofs.Ytplaicdbcfnjbaa
