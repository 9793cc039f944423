/-
  The flat stack: the chapter's example.
-/
import Derived.Test.YtpladpmkpchndaaStackNil7
namespace Go.Proofs.Ytpladpmkpchndaa
open Go.RowKit
set_option linter.unusedSimpArgs false
set_option linter.unusedVariables false
attribute [local go_sem] run_store_cplx

theorem own_some' {w : World} {base k c : Nat} {e : TypeId} {size : Nat} {A : Option Addr} {xs : List Value} (h : w.ownsRow base e size (.slice A k c) k xs) (hk : 0 < k) : ∃ r, A = some ⟨r, 0, none⟩ ∧ k ≤ c ∧ c ≤ maxLen := by
  rcases h.2 with ⟨_, h0⟩ | ⟨g', cap', cur, hv, _, _, h3, h4, _⟩
  · omega
  · simp only [Value.slice.injEq, true_and] at hv
    obtain ⟨rfl, rfl⟩ := hv
    exact ⟨g', rfl, h3, h4⟩
set_option maxRecDepth 100000 in
set_option maxHeartbeats 1000000 in
theorem stack_lives (w : World) : Calls Try.prog 24 #[] w fun e w' => e = .returned (.bool true) ∧ Below w.heap.size w w' := by
  have hfd1 : ∀ w, (Instr.field 27 (.agg #[.int .i64 1, .int .i64 1, .complex .f64 0 0]) 1).run Try.prog w = .ok (.int .i64 1) w := fun _ => by kernel_rfl
  have hfd2 : ∀ w, (Instr.field 27 (.agg #[.int .i64 2, .int .i64 0, .complex .f64 0 0]) 0).run Try.prog w = .ok (.int .i64 2) w := fun _ => by kernel_rfl
  go_enter Try.func24, Try.ntmps24
  go_wp2_with fail
  obtain ⟨w0, hw⟩ : ∃ w0, w.alloc (.cells #[.slice none 0 0] 31) = w0 := ⟨_, rfl⟩
  have B0 : Hid (Below w.heap.size w w0) := Lib.hid (by rw [← hw]; exact (Below.refl _ _).alloc (Nat.le_refl _) _)
  have hc0 : w0.cell? ⟨w.heap.size, 0, none⟩ = some (.slice none 0 0) := by rw [← hw]; exact cell_of_row _ w.heap.size 0 _ _ (0, 0) (heap_alloc_new w _)
  have hf0 : w0.frozen? ⟨w.heap.size, 0, none⟩ = false := by rw [← hw]; simp
  rw [hw]
  clear hw
  obtain ⟨g, hg⟩ : ∃ g, w.heap.size = g := ⟨_, rfl⟩
  rw [hg] at hc0 hf0 B0
  rw [hg]
  refine (push_box g 0 0 none [] 1 1 0 0 w0 hc0 hf0 (.inl (World.ownsRow_nil _ _ _ _)) (by omega)).mono ?_
  rintro e w1 ⟨⟨v1, rfl⟩, A1, c1, q1, f1, o1, b1⟩
  have Q1 := Lib.hid q1
  have F1 := Lib.hid f1
  have O1 := Lib.hid o1
  have B1 := Lib.hid (B0.out.trans b1)
  clear hc0 hf0 q1 f1 o1 b1
  go_wp2_with fail
  refine (push_box g 1 c1 A1 _ 1 2 0 0 w1 Q1.out F1.out (.inl O1.out) (by omega)).mono ?_
  rintro e w2 ⟨⟨v2, rfl⟩, A2, c2, q2, f2, o2, b2⟩
  obtain ⟨r, rfl, hc2, hm2⟩ := own_some' o2 (by omega)
  have Q2 := Lib.hid q2
  have F2 := Lib.hid f2
  have O2 := Lib.hid o2
  have B2 := Lib.hid (B1.out.trans b2)
  clear q2 f2 o2 b2
  go_wp2_with fail
  refine (cut_box g r c2 w2 Q2.out F2.out hc2 hm2).mono ?_
  rintro e w3 ⟨⟨v3, rfl⟩, hw3⟩
  have hrg := (O2.out.lt r rfl).1
  have O3 : w3.ownsRow (g + 1) 27 3 (.slice (some ⟨r, 0, none⟩) 2 c2) 2 [.int .i64 1, .int .i64 1, .complex .f64 0 0, .int .i64 1, .int .i64 2, .complex .f64 0 0] := by
    rw [hw3]
    exact own_set O2.out (Nat.lt_succ_self g) _ _
  have q3 : w3.cell? ⟨g, 0, none⟩ = some (.slice (some ⟨r, 0, none⟩) 1 1) := by rw [hw3]; have := Q2.out; simp [go_sem, this]
  have f3 : w3.frozen? ⟨g, 0, none⟩ = false := by rw [hw3]; simpa [go_sem] using F2.out
  have p0 : w3.cell? ⟨r, 0, none⟩ = some (.int .i64 1) := O3.cellAt 0 (by omega)
  have p1 : w3.cell? ⟨r, 1, none⟩ = some (.int .i64 1) := O3.cellAt 1 (by omega)
  have p2 : w3.cell? ⟨r, 2, none⟩ = some (.complex .f64 0 0) := O3.cellAt 2 (by omega)
  have S3 : Hid (Stk w3 (g + 1) 27 3 (.slice (some ⟨r, 0, none⟩) 1 1) 1 [.int .i64 1, .int .i64 1, .complex .f64 0 0]) := Lib.hid (.inr ⟨rfl, ⟨r, 0, none⟩, rfl, hrg, (O3.lt r rfl).2, fun j u hj => by
    have hadd : Addr.add ⟨r, 0, none⟩ j = ⟨r, j, none⟩ := by
      unfold Addr.add
      split
      · rename_i h; subst h; rfl
      · simp
    rw [hadd]
    have hj3 : j < 3 := (List.getElem?_eq_some_iff.1 hj).1
    match j, hj3 with
    | 0, _ => rw [p0]; simpa using hj
    | 1, _ => rw [p1]; simpa using hj
    | 2, _ => rw [p2]; simpa using hj⟩)
  have B3 : Hid (Below g w w3) := Lib.hid (by rw [hw3]; exact B2.out.setCell (p := ⟨g, 0, none⟩) (Nat.le_refl g) _)
  have Q3 := Lib.hid q3
  have F3 := Lib.hid f3
  have hgl : g < w3.heap.size := World.block_lt_of_cell? _ _ q3
  have HGL := Lib.hid hgl
  have c0 : Hid (Calls Try.prog 17 #[.pointer (some ⟨g, 0, none⟩)] w3 fun e w' => e = .returned (.int .i64 ((1 : Nat) : Int)) ∧ w3 = w') := len_box g _ 1 1 w3 q3 (by omega)
  have cg : Hid (Calls Try.prog 19 #[.pointer (some ⟨g, 0, none⟩), .int .i64 0] w3 fun e w' => e = .returned (.agg #[.int .i64 1, .int .i64 1, .complex .f64 0 0]) ∧ Below w3.heap.size w3 w') := get_0 g r 1 1 1 0 0 w3 q3 p0 p1 p2
  clear hw3 O3 q3 f3 p0 p1 p2 hrg hgl hc2 hm2
  go_wp2_with fail
  refine Calls.mono c0.out ?_
  rintro e w9 ⟨rfl, rfl⟩
  go_wp2_with fail
  refine Calls.mono cg.out ?_
  rintro e w4 ⟨rfl, b4⟩
  have HB4 := Lib.hid (b4.mono (by have := HGL.out; omega : g ≤ w3.heap.size))
  have S4 := Lib.hid ((S3.out.keep b4).alloc (.cells #[.int .i64 2] 24))
  have hgl4 : g < w4.heap.size := Nat.lt_of_lt_of_le HGL.out b4.size
  have q4 : (w4.alloc (.cells #[.int .i64 2] 24)).cell? ⟨g, 0, none⟩ = some (.slice (some ⟨r, 0, none⟩) 1 1) := (World.cell?_alloc_lt _ _ _ hgl4).trans ((b4.cell (p := ⟨g, 0, none⟩) HGL.out).trans Q3.out)
  have f4 : (w4.alloc (.cells #[.int .i64 2] 24)).frozen? ⟨g, 0, none⟩ = false := by
    rw [((Below.refl (g + 1) w4).alloc (o := .cells #[.int .i64 2] 24) (by omega)).frozen (p := ⟨g, 0, none⟩) (Nat.lt_succ_self g), b4.frozen (p := ⟨g, 0, none⟩) HGL.out]
    exact F3.out
  have Q4 := Lib.hid q4
  have F4 := Lib.hid f4
  have HA : Hid (Below g w4 (w4.alloc (.cells #[.int .i64 2] 24))) := Lib.hid ((Below.refl _ _).alloc (by omega) _)
  clear b4 q4 f4 hgl4 c0 cg
  go_wp2_with fail
  refine (grow_box g r w4.heap.size _ _ Q4.out F4.out S4.out (cell_of_row _ w4.heap.size 0 #[.int .i64 2] 24 (0, 0) (heap_alloc_new w4 _))).mono ?_
  rintro e w6 ⟨rfl, A6, c6, q6, f6, o6, b6⟩
  obtain ⟨r6, rfl, _, _⟩ := own_some' o6 (by omega)
  have p3 : w6.cell? ⟨r6, 3, none⟩ = some (.int .i64 2) := o6.cellAt 3 (by omega)
  have p4 : w6.cell? ⟨r6, 4, none⟩ = some (.int .i64 0) := o6.cellAt 4 (by omega)
  have p5 : w6.cell? ⟨r6, 5, none⟩ = some (.complex .f64 0 0) := o6.cellAt 5 (by omega)
  have cg : Hid (Calls Try.prog 19 #[.pointer (some ⟨g, 0, none⟩), .int .i64 1] w6 fun e w' => e = .returned (.agg #[.int .i64 2, .int .i64 0, .complex .f64 0 0]) ∧ Below w6.heap.size w6 w') := get_1 g r6 c6 2 0 0 0 w6 q6 p3 p4 p5
  have hgl6 : g ≤ w6.heap.size := Nat.le_of_lt (World.block_lt_of_cell? _ _ q6)
  have HB6 := Lib.hid (((B3.out.trans HB4.out).trans HA.out).trans b6)
  have HG6 := Lib.hid hgl6
  clear q6 f6 o6 b6 p3 p4 p5 hgl6
  go_wp2_with fail
  refine Calls.mono cg.out ?_
  rintro e w7 ⟨rfl, b7⟩
  have HB7 := Lib.hid (HB6.out.trans (b7.mono HG6.out))
  clear b7
  go_wp2_with fail
  go_ret
  exact ⟨rfl, by rw [hg]; exact HB7.out⟩
theorem stackNil_all (n : Int) (w : World) (h : (Lit.int .i64 n).wf = true) : Calls Try.prog 3 #[.int .i64 n] w fun e w' => e = .returned (.bool true) ∧ Below w.heap.size w w' := stackNil_walk (fun w => stack_lives w) n w
end Go.Proofs.Ytpladpmkpchndaa
