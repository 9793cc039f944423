/-
  Complex numbers: PlaneJust where all numbers are small.
-/
import Derived.Test.YtpladpmkpchndaaPl4
namespace Go.Proofs.Ytpladpmkpchndaa
open Go.RowKit
set_option linter.unusedSimpArgs false
set_option linter.unusedVariables false

theorem quiet_ex2 {P : Program} {f : FuncId} {args : Array Value} {w : World} {a n : Nat} {v : Value}
    (h : Calls P f args (w.drewN (a + n)) fun e w' => e = .returned v ∧ ∃ m, w' = (w.drewN (a + n)).drewN m) : Calls P f args (w.drewN (a + n)) fun e w'' => e = .returned v ∧ ∃ m, w'' = w.drewN (a + m) :=
  h.mono fun _ _ ⟨he, m, hm⟩ => ⟨he, n + m, by rw [hm, World.drewN_drewN, Nat.add_assoc]⟩
theorem okWide_array {P : Program} {w : World} {r : Reach} {base : Nat} {t : TypeId} {v : Value} {n : Nat} {e : TypeId} (ht : P.underlying t = some (.array n e)) (h : Value.okWide P w r base t v) : ∃ cs, v = .agg cs ∧ cs.size = P.cellsOf t := by
  unfold Value.okWide at h
  rw [ht] at h
  obtain ⟨cs, rfl, hs, _⟩ := h
  exact ⟨cs, rfl, hs⟩
theorem mul_bd {a b : Int} (h1 : -1048576 ≤ a) (h2 : a ≤ 1048576) (h3 : -1048576 ≤ b) (h4 : b ≤ 1048576) : -1099511627776 ≤ a * b ∧ a * b ≤ 1099511627776 := by
  have h := Nat.mul_le_mul (show a.natAbs ≤ 1048576 by omega) (show b.natAbs ≤ 1048576 by omega)
  rw [← Int.natAbs_mul] at h
  omega
theorem wrap_in {n : Int} (h1 : -9007199254740992 < n) (h2 : n < 9007199254740992) : IntKind.i64.wrap n = n := IntWalk.i64_in n (by omega)
set_option maxRecDepth 100000 in
set_option maxHeartbeats 4000000 in
theorem just_main (a0 a1 b0 b1 : Int) (w : World) (k1 : -1048576 ≤ a0) (k2 : a0 ≤ 1048576) (k3 : -1048576 ≤ b0) (k4 : b0 ≤ 1048576) (l1 : -1048576 ≤ a1) (l2 : a1 ≤ 1048576) (l3 : -1048576 ≤ b1) (l4 : b1 ≤ 1048576) :
    Calls Try.prog 11 #[.agg #[.int .i64 a0, .int .i64 a1], .agg #[.int .i64 b0, .int .i64 b1]] w fun e w' => e = .returned (.bool true) ∧ Below w.heap.size w w' := by
  have m00 := mul_bd k1 k2 k3 k4
  have m11 := mul_bd l1 l2 l3 l4
  have m01 := mul_bd k1 k2 l3 l4
  have m10 := mul_bd l1 l2 k3 k4
  have M00 := Lib.hid m00
  have M11 := Lib.hid m11
  have M01 := Lib.hid m01
  have M10 := Lib.hid m10
  have W1 := Lib.hid (wrap_in (n := a0 + b0) (by omega) (by omega))
  have W2 := Lib.hid (wrap_in (n := a1 + b1) (by omega) (by omega))
  have W3 := Lib.hid (wrap_in (n := a0 - b0) (by omega) (by omega))
  have W4 := Lib.hid (wrap_in (n := a1 - b1) (by omega) (by omega))
  have W5 := Lib.hid (wrap_in (n := a0 * b0) (by omega) (by omega))
  have W6 := Lib.hid (wrap_in (n := a1 * b1) (by omega) (by omega))
  have W7 := Lib.hid (wrap_in (n := a0 * b1) (by omega) (by omega))
  have W8 := Lib.hid (wrap_in (n := a1 * b0) (by omega) (by omega))
  have W9 := Lib.hid (wrap_in (n := a0 * b0 - a1 * b1) (by omega) (by omega))
  have W10 := Lib.hid (wrap_in (n := a0 * b1 + a1 * b0) (by omega) (by omega))
  clear m00 m11 m01 m10
  go_enter Try.func11, Try.ntmps11
  go_wp2
  refine wp_loop_rounds 3 ?_
  rw [rounds_succ]
  go_wp2_with fail
  rw [rounds_succ]
  go_wp2_with fail
  rw [rounds_succ]
  go_wp2_with fail
  have K := Lib.hid (And.intro (And.intro k1 k2) (And.intro k3 k4))
  have L := Lib.hid (And.intro (And.intro l1 l2) (And.intro l3 l4))
  clear k1 k2 k3 k4 l1 l2 l3 l4
  obtain ⟨W, hW⟩ : ∃ W, (w.alloc (.cells #[.int .i64 a0, .int .i64 a1] 92)).alloc (.cells #[.int .i64 b0, .int .i64 b1] 92) = W := ⟨_, rfl⟩
  have q0 : W.cell? ⟨w.heap.size, 0, none⟩ = some (.int .i64 a0) := by rw [← hW]; simp [go_sem]
  have q1 : W.cell? ⟨w.heap.size, 1, none⟩ = some (.int .i64 a1) := by rw [← hW]; simp [go_sem]
  have q2 : W.cell? ⟨w.heap.size + 1, 0, none⟩ = some (.int .i64 b0) := by rw [← hW]; simp [go_sem]
  have q3 : W.cell? ⟨w.heap.size + 1, 1, none⟩ = some (.int .i64 b1) := by rw [← hW]; simp [go_sem]
  have HB : Hid (Below w.heap.size w W) := Lib.hid (by rw [← hW]; exact ((Below.refl _ _).alloc (Nat.le_refl _) _).alloc (by simp) _)
  rw [hW]
  clear hW
  go_quiet ((go_at_call 49; exact quiet_eq (pair_any _ _ _)))
  go_wp2_with fail
  obtain ⟨x1, hx1⟩ : ∃ x, FloatKind.f64.nearest a0 = x := ⟨_, rfl⟩
  obtain ⟨x2, hx2⟩ : ∃ x, FloatKind.f64.nearest a1 = x := ⟨_, rfl⟩
  obtain ⟨y1, hy1⟩ : ∃ x, FloatKind.f64.nearest b0 = x := ⟨_, rfl⟩
  obtain ⟨y2, hy2⟩ : ∃ x, FloatKind.f64.nearest b1 = x := ⟨_, rfl⟩
  have ex1 := Lib.hid (hx1 ▸ int_ex a0 (by have := K.out; omega) (by have := K.out; omega))
  have ex2 := Lib.hid (hx2 ▸ int_ex a1 (by have := L.out; omega) (by have := L.out; omega))
  have ey1 := Lib.hid (hy1 ▸ int_ex b0 (by have := K.out; omega) (by have := K.out; omega))
  have ey2 := Lib.hid (hy2 ▸ int_ex b1 (by have := L.out; omega) (by have := L.out; omega))
  rw [hx1, hx2, hy1, hy2]
  clear hx1 hx2 hy1 hy2
  go_wp2_with fail
  refine (two_any 16 x1 x2 y1 y2 _).mono ?_
  rintro e w' ⟨s1, s2, n1, rfl, ht, rfl⟩
  obtain ⟨h1, h2⟩ := ht.1 rfl
  have hs1 : partOf 19 s1 s2 = a0 + b0 := (h1.add_ex ex1.out ey1.out (by have := K.out; omega) (by have := K.out; omega)).part (by have := K.out; omega) (by have := K.out; omega)
  have hs2 : partOf 20 s1 s2 = a1 + b1 := (h2.add_ex ex2.out ey2.out (by have := L.out; omega) (by have := L.out; omega)).part (by have := L.out; omega) (by have := L.out; omega)
  have p1 := Lib.hid hs1
  have p2 := Lib.hid hs2
  clear hs1 hs2 h1 h2 ht
  go_wp2_with fail
  refine (two_any 17 x1 x2 y1 y2 _).mono ?_
  rintro e w' ⟨d1, d2, n2, rfl, ht, rfl⟩
  obtain ⟨h1, h2⟩ := ht.2.1 rfl
  have hs1 : partOf 19 d1 d2 = a0 - b0 := (h1.sub_ex ex1.out ey1.out (by have := K.out; omega) (by have := K.out; omega)).part (by have := K.out; omega) (by have := K.out; omega)
  have hs2 : partOf 20 d1 d2 = a1 - b1 := (h2.sub_ex ex2.out ey2.out (by have := L.out; omega) (by have := L.out; omega)).part (by have := L.out; omega) (by have := L.out; omega)
  have p3 := Lib.hid hs1
  have p4 := Lib.hid hs2
  clear hs1 hs2 h1 h2 ht
  go_wp2_with fail
  refine (two_any 18 x1 x2 y1 y2 _).mono ?_
  rintro e w' ⟨r1, r2, n3, rfl, ht, rfl⟩
  obtain ⟨p, q, u, v, h1, h2, h3, h4, h5, h6⟩ := ht.2.2.1 rfl
  have hs1 : partOf 19 r1 r2 = a0 * b0 - a1 * b1 := by
    have := M00.out
    have := M11.out
    exact (h3.sub_ex (h1.mul_ex ex1.out ey1.out (by omega) (by omega)) (h2.mul_ex ex2.out ey2.out (by omega) (by omega)) (by omega) (by omega)).part (by omega) (by omega)
  have hs2 : partOf 20 r1 r2 = a0 * b1 + a1 * b0 := by
    have := M01.out
    have := M10.out
    exact (h6.add_ex (h4.mul_ex ex1.out ey2.out (by omega) (by omega)) (h5.mul_ex ex2.out ey1.out (by omega) (by omega)) (by omega) (by omega)).part (by omega) (by omega)
  have p5 := Lib.hid hs1
  have p6 := Lib.hid hs2
  clear hs1 hs2 h1 h2 h3 h4 h5 h6 ht
  have e1 := p1.out
  have e2 := p2.out
  have w1 := W1.out
  have w2 := W2.out
  go_wp2_with fail
  go_quiet ((go_at_call 55; exact quiet_eq2 (part_any _ _ _ _)))
  clear e1 e2 w1 w2
  have e1 := p3.out
  have e2 := p4.out
  have w1 := W3.out
  have w2 := W4.out
  go_wp2_with fail
  go_quiet ((go_at_call 55; exact quiet_eq2 (part_any _ _ _ _)))
  clear e1 e2 w1 w2
  have e1 := p5.out
  have e2 := p6.out
  have w5 := W5.out
  have w6 := W6.out
  have w7 := W7.out
  have w8 := W8.out
  have w9 := W9.out
  have w10 := W10.out
  go_wp2_with fail
  go_quiet (first | ((go_at_call 55; exact quiet_eq2 (part_any _ _ _ _))) | ((go_at_call 57; exact quiet_ex2 (plane_lives _))))
  clear e1 e2 w5 w6 w7 w8 w9 w10
  go_wp2_with fail
  go_ret
  exact ⟨rfl, by repeat (first | exact HB.out | refine below_drewN' ?_ _)⟩
theorem planeJust_walk (cs : Array Value) (x : DInt2) (cs' : Array Value) (y : DInt2) (w : World) (h : RInt2 w w.heap.size cs.toList x) (h' : RInt2 w w.heap.size cs'.toList y) :
    Calls Try.prog 11 #[.agg cs, .agg cs'] w fun e w' => e = .returned (.bool true) ∧ Below w.heap.size w w' := by
  obtain ⟨a0, a1⟩ := x
  obtain ⟨b0, b1⟩ := y
  have e1 : cs = #[.int .i64 a0, .int .i64 a1] := by rw [← Array.toList_inj]; exact h.1
  have e2 : cs' = #[.int .i64 b0, .int .i64 b1] := by rw [← Array.toList_inj]; exact h'.1
  subst e1 e2
  clear h h'
  by_cases k1 : -1048576 ≤ a0 ∧ a0 ≤ 1048576 ∧ -1048576 ≤ b0 ∧ b0 ≤ 1048576
  · by_cases l1 : -1048576 ≤ a1 ∧ a1 ≤ 1048576 ∧ -1048576 ≤ b1 ∧ b1 ≤ 1048576
    · exact just_main a0 a1 b0 b1 w k1.1 k1.2.1 k1.2.2.1 k1.2.2.2 l1.1 l1.2.1 l1.2.2.1 l1.2.2.2
    · exact just_out1 a0 a1 b0 b1 w k1.1 k1.2.1 k1.2.2.1 k1.2.2.2 (by omega)
  · exact just_out0 a0 a1 b0 b1 w (by omega)
end Go.Proofs.Ytpladpmkpchndaa
