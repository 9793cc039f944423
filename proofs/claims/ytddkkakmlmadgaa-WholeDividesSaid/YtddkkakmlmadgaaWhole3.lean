/-
  Numbers of 64 bits: the three laws' walks.
-/
import Derived.Test.YtddkkakmlmadgaaWhole2
import Derived.Test.YtddkkakmlmadgaaRead
namespace Go.Proofs.Ytddkkakmlmadgaa
open Go.RowKit
set_option linter.unusedSimpArgs false
set_option linter.unusedVariables false

theorem twoV_n7_2 : twoV 9 (-7) 2 = .tuple #[.int .i64 (-3), .bool true] := by kernel_rfl
theorem twoV_m7_2 : twoV 10 (-7) 2 = .tuple #[.int .i64 (-1), .bool true] := by kernel_rfl
theorem twoV_1_0 : twoV 9 1 0 = .tuple #[.int .i64 0, .bool false] := by kernel_rfl
set_option maxHeartbeats 1000000 in
theorem whole_lives (w : World) : Calls Try.prog 12 #[] w fun e w' => e = .returned (.bool true) ∧ Below w.heap.size w w' := by
  have c1 : ∀ w : World, Hid (Calls Try.prog 13 #[.int .i64 9, .int .i64 (-7), .int .i64 2] w (Pure (.tuple #[.int .i64 (-3), .bool true]) w)) := fun w => by rw [← twoV_n7_2]; exact whole_Two_any _ _ _ _
  have c2 : ∀ w : World, Hid (Calls Try.prog 13 #[.int .i64 10, .int .i64 (-7), .int .i64 2] w (Pure (.tuple #[.int .i64 (-1), .bool true]) w)) := fun w => by rw [← twoV_m7_2]; exact whole_Two_any _ _ _ _
  have c3 : ∀ w : World, Hid (Calls Try.prog 13 #[.int .i64 9, .int .i64 1, .int .i64 0] w (Pure (.tuple #[.int .i64 0, .bool false]) w)) := fun w => by rw [← twoV_1_0]; exact whole_Two_any _ _ _ _
  go_enter Try.func12, Try.ntmps12
  go_wp2_with fail
  refine Calls.mono (c1 _).out ?_
  rintro e w1 ⟨rfl, q1, rfl⟩
  go_wp2_with fail
  refine Calls.mono (c2 _).out ?_
  rintro e w2 ⟨rfl, q2, rfl⟩
  go_wp2_with fail
  refine Calls.mono (c3 _).out ?_
  rintro e w3 ⟨rfl, q3, rfl⟩
  go_wp2_with fail
  refine (whole_One_any _ _ _).mono ?_
  rintro e w4 ⟨rfl, rfl⟩
  rw [show oneM 14 0 = 1 from rfl]
  go_wp2_with fail
  go_ret
  exact ⟨rfl, by first | exact below_drewN' (below_drewN' (below_drewN' (Below.refl _ _) _) _) _ | exact below_drewN' (Below.refl _ _) _⟩

set_option maxHeartbeats 1000000 in
theorem wholeTwos_law (op a b : Int) (w : World) (_h : (Lit.int .i64 op).wf = true) (ha : (Lit.int .i64 a).wf = true) (_hb : (Lit.int .i64 b).wf = true) :
    Calls Try.prog 5 #[.int .i64 op, .int .i64 a, .int .i64 b] w fun e w' => e = .returned (.bool true) ∧ Below w.heap.size w w' := by
  obtain ⟨x, ok, hv⟩ : ∃ (x : Int) (ok : Bool), twoV op a b = .tuple #[.int .i64 x, .bool ok] := ⟨_, _, rfl⟩
  have c1 : ∀ w : World, Hid (Calls Try.prog 13 #[.int .i64 op, .int .i64 a, .int .i64 b] w (Pure (.tuple #[.int .i64 x, .bool ok]) w)) := fun w => by rw [← hv]; exact whole_Two_any _ _ _ _
  have c2 : ∀ w : World, Hid (Calls Try.prog 14 #[.int .i64 op, .int .i64 a, .int .i64 b] w (Pure (.tuple #[.int .i64 x, .bool ok]) w)) := fun w => by rw [← hv]; exact ref_Two_any _ _ _ (in64_of_wf ha) _
  clear hv
  obtain ⟨t, ht⟩ : ∃ t, takesNM op = t := ⟨_, rfl⟩
  have c3 : ∀ w : World, Hid (Calls Try.prog 15 #[.int .i64 op] w fun e w' => e = .returned (.int .i64 t) ∧ w = w') := fun w => by rw [← ht]; exact whole_Takes_any _ _
  have c4 : ∀ w : World, Hid (Calls Try.prog 16 #[.int .i64 op] w fun e w' => e = .returned (.int .i64 t) ∧ w = w') := fun w => by rw [← ht]; exact ref_Takes_any _ _
  clear ht
  have t1 : (x == x) = true := by simp
  have t2 : (ok == ok) = true := by simp
  have t3 : (t == t) = true := by simp
  go_enter Try.func5, Try.ntmps5
  go_wp2_with fail
  refine Calls.mono (c1 _).out ?_
  rintro e w1 ⟨rfl, q1, rfl⟩
  go_wp2_with fail
  refine Calls.mono (c2 _).out ?_
  rintro e w2 ⟨rfl, q2, rfl⟩
  go_wp2_with fail
  refine Calls.mono (c3 _).out ?_
  rintro e w3 ⟨rfl, rfl⟩
  go_wp2_with fail
  refine Calls.mono (c4 _).out ?_
  rintro e w3 ⟨rfl, rfl⟩
  go_wp2_with fail
  refine (whole_lives _).mono ?_
  rintro e w4 ⟨rfl, hb4⟩
  go_wp2_with fail
  go_ret
  exact ⟨rfl, ⟨hb4.os, hb4.tape, hb4.output, hb4.size, hb4.block⟩⟩

set_option maxHeartbeats 1000000 in
theorem wholeOnes_law (op a : Int) (w : World) (_h : (Lit.int .i64 op).wf = true) (ha : (Lit.int .i64 a).wf = true) :
    Calls Try.prog 3 #[.int .i64 op, .int .i64 a] w fun e w' => e = .returned (.bool true) ∧ Below w.heap.size w w' := by
  obtain ⟨x, hv⟩ : ∃ (x : Int), oneM op a = x := ⟨_, rfl⟩
  have c1 : ∀ w : World, Hid (Calls Try.prog 10 #[.int .i64 op, .int .i64 a] w fun e w' => e = .returned (.int .i64 x) ∧ w = w') := fun w => by rw [← hv]; exact whole_One_any _ _ _
  have c2 : ∀ w : World, Hid (Calls Try.prog 11 #[.int .i64 op, .int .i64 a] w fun e w' => e = .returned (.int .i64 x) ∧ w = w') := fun w => by rw [← hv]; exact ref_One_any _ _ _
  clear hv
  have t1 : (x == x) = true := by simp
  go_enter Try.func3, Try.ntmps3
  go_wp2_with fail
  refine Calls.mono (c1 _).out ?_
  rintro e w1 ⟨rfl, rfl⟩
  go_wp2_with fail
  refine Calls.mono (c2 _).out ?_
  rintro e w2 ⟨rfl, rfl⟩
  go_wp2_with fail
  refine (whole_lives _).mono ?_
  rintro e w4 ⟨rfl, hb4⟩
  go_wp2_with fail
  go_ret
  exact ⟨rfl, hb4⟩

/-- Which of five ways the quotient and the rest stand. -/
def Near (a b r : Int) : Prop := r = 0 ∨ (r < 0 ∧ a < 0 ∧ b < 0 ∧ b < r) ∨ (0 < r ∧ 0 ≤ a ∧ b < 0 ∧ b < -r) ∨ (0 < r ∧ 0 ≤ a ∧ 0 < b ∧ r < b) ∨ (r < 0 ∧ a < 0 ∧ 0 < b ∧ -b < r)

set_option maxRecDepth 100000 in
set_option maxHeartbeats 4000000 in
theorem divides_near (a b q r p : Int) (hr1 : -9223372036854775807 ≤ r) (hbr2 : b ≤ 9223372036854775807) (hr2 : r ≤ 9223372036854775807) (hb0 : (b == 0) = false) (near : Near a b r)
    (c1 : ∀ w : World, Hid (Calls Try.prog 13 #[.int .i64 9, .int .i64 a, .int .i64 b] w (Pure (.tuple #[.int .i64 q, .bool true]) w)))
    (c2 : ∀ w : World, Hid (Calls Try.prog 13 #[.int .i64 10, .int .i64 a, .int .i64 b] w (Pure (.tuple #[.int .i64 r, .bool true]) w)))
    (c3 : ∀ w : World, Hid (Calls Try.prog 13 #[.int .i64 8, .int .i64 q, .int .i64 b] w (Pure (.tuple #[.int .i64 p, .bool true]) w)))
    (c4 : ∀ w : World, Hid (Calls Try.prog 13 #[.int .i64 6, .int .i64 p, .int .i64 r] w (Pure (.tuple #[.int .i64 a, .bool true]) w))) (w : World) :
    Calls Try.prog 4 #[.int .i64 a, .int .i64 b] w fun e w' => e = .returned (.bool true) ∧ Below w.heap.size w w' := by
  have t1 : (a == a) = true := by simp
  rcases near with rfl | ⟨g1, g2, g3, g4⟩ | ⟨g1, g2, g3, g4⟩ | ⟨g1, g2, g3, g4⟩ | ⟨g1, g2, g3, g4⟩
  · go_enter Try.func4, Try.ntmps4
    go_wp2_with fail
    refine Calls.mono (c1 _).out ?_
    rintro e w1 ⟨rfl, q1, rfl⟩
    go_wp2_with fail
    refine Calls.mono (c2 _).out ?_
    rintro e w2 ⟨rfl, q2, rfl⟩
    go_wp2_with fail
    refine Calls.mono (c3 _).out ?_
    rintro e w3 ⟨rfl, q3, rfl⟩
    go_wp2_with fail
    refine Calls.mono (c4 _).out ?_
    rintro e w3 ⟨rfl, q4, rfl⟩
    go_wp2_with fail
    refine (whole_lives _).mono ?_
    rintro e w4 ⟨rfl, hb4⟩
    go_wp2_with fail
    go_ret
    exact ⟨rfl, ⟨hb4.os, hb4.tape, hb4.output, hb4.size, hb4.block⟩⟩
  all_goals
    have f1 : (r == 0) = false := by rw [beq_eq_false_iff_ne]; omega
    go_enter Try.func4, Try.ntmps4
    go_wp2_with fail
    refine Calls.mono (c1 _).out ?_
    rintro e w1 ⟨rfl, q1, rfl⟩
    go_wp2_with fail
    refine Calls.mono (c2 _).out ?_
    rintro e w2 ⟨rfl, q2, rfl⟩
    go_wp2_with fail
    refine Calls.mono (c3 _).out ?_
    rintro e w3 ⟨rfl, q3, rfl⟩
    go_wp2_with fail
    refine Calls.mono (c4 _).out ?_
    rintro e w3 ⟨rfl, q4, rfl⟩
    go_wp2_with fail
    refine (whole_lives _).mono ?_
    rintro e w4 ⟨rfl, hb4⟩
    go_wp2_with fail
    go_ret
    exact ⟨rfl, ⟨hb4.os, hb4.tape, hb4.output, hb4.size, hb4.block⟩⟩

theorem near_of {a b : Int} (hb : b ≠ 0) : Near a b (a.tmod b) := by
  have := tmod_near (a := a) hb
  unfold Near
  omega

set_option maxHeartbeats 1000000 in
theorem divides_zero (a : Int) (w : World) : Calls Try.prog 4 #[.int .i64 a, .int .i64 0] w fun e w' => e = .returned (.bool true) ∧ Below w.heap.size w w' := by
  have c1 : ∀ w : World, Hid (Calls Try.prog 13 #[.int .i64 9, .int .i64 a, .int .i64 0] w (Pure (.tuple #[.int .i64 0, .bool false]) w)) := fun w => whole_Two_any _ _ _ _
  have c2 : ∀ w : World, Hid (Calls Try.prog 13 #[.int .i64 10, .int .i64 a, .int .i64 0] w (Pure (.tuple #[.int .i64 0, .bool false]) w)) := fun w => whole_Two_any _ _ _ _
  go_enter Try.func4, Try.ntmps4
  go_wp2_with fail
  refine Calls.mono (c1 _).out ?_
  rintro e w1 ⟨rfl, q1, rfl⟩
  go_wp2_with fail
  refine Calls.mono (c2 _).out ?_
  rintro e w2 ⟨rfl, q2, rfl⟩
  go_wp2_with fail
  refine (whole_lives _).mono ?_
  rintro e w4 ⟨rfl, hb4⟩
  go_wp2_with fail
  go_ret
  exact ⟨rfl, ⟨hb4.os, hb4.tape, hb4.output, hb4.size, hb4.block⟩⟩

theorem wholeDivides_law (a b : Int) (w : World) (ha : (Lit.int .i64 a).wf = true) (hb : (Lit.int .i64 b).wf = true) :
    Calls Try.prog 4 #[.int .i64 a, .int .i64 b] w fun e w' => e = .returned (.bool true) ∧ Below w.heap.size w w' := by
  by_cases h0 : b = 0
  · subst h0; exact divides_zero a w
  · have ha' := in64_of_wf ha
    have hb' := in64_of_wf hb
    have hb00 : (b == 0) = false := by rw [beq_eq_false_iff_ne]; exact h0
    by_cases h1 : b = -1
    · subst h1
      have hq : twoV 9 a (-1) = .tuple #[.int .i64 (wrap64 (-a)), .bool true] := rfl
      have hr : twoV 10 a (-1) = .tuple #[.int .i64 0, .bool true] := rfl
      have hback : wrap64 (wrap64 (wrap64 (-a) * -1) + 0) = a := by
        unfold In64 at ha'
        unfold wrap64
        omega
      refine divides_near a (-1) (wrap64 (-a)) 0 (wrap64 (wrap64 (-a) * -1)) (by omega) (by omega) (by omega) hb00 (.inl rfl) (fun w => by rw [← hq]; exact whole_Two_any _ _ _ _) (fun w => by rw [← hr]; exact whole_Two_any _ _ _ _)
        (fun w => whole_Two_any 8 (wrap64 (-a)) (-1) w) (fun w => ?_) w
      have h6 : twoV 6 (wrap64 (wrap64 (-a) * -1)) 0 = .tuple #[.int .i64 a, .bool true] := by
        have : twoV 6 (wrap64 (wrap64 (-a) * -1)) 0 = .tuple #[.int .i64 (wrap64 (wrap64 (wrap64 (-a) * -1) + 0)), .bool true] := rfl
        rw [this, hback]
      rw [← h6]
      exact whole_Two_any _ _ _ _
    · have hq : twoV 9 a b = .tuple #[.int .i64 (wrap64 (a.tdiv b)), .bool true] := by simp [twoV, twoM, h0, h1]
      have hr : twoV 10 a b = .tuple #[.int .i64 (a.tmod b), .bool true] := by simp [twoV, twoM, h0, h1]
      rw [wrap_in (tdiv_in ha' h0 h1)] at hq
      have hm := tmod_in (b := b) ha'
      have hmb : -9223372036854775807 ≤ a.tmod b := by
        have h2 : (a.tmod b).natAbs < b.natAbs := by rw [Int.natAbs_tmod]; exact Nat.mod_lt _ (by omega)
        unfold In64 at hb'
        omega
      · unfold In64 at hb' hm
        refine divides_near a b (a.tdiv b) (a.tmod b) (wrap64 (a.tdiv b * b)) hmb (by omega) (by omega) hb00 (near_of h0) (fun w => by rw [← hq]; exact whole_Two_any _ _ _ _) (fun w => by rw [← hr]; exact whole_Two_any _ _ _ _)
          (fun w => whole_Two_any 8 (a.tdiv b) b w) (fun w => ?_) w
        have h6 : twoV 6 (wrap64 (a.tdiv b * b)) (a.tmod b) = .tuple #[.int .i64 a, .bool true] := by
          have : twoV 6 (wrap64 (a.tdiv b * b)) (a.tmod b) = .tuple #[.int .i64 (wrap64 (wrap64 (a.tdiv b * b) + a.tmod b)), .bool true] := rfl
          rw [this, back_eq ha']
        rw [← h6]
        exact whole_Two_any _ _ _ _
end Go.Proofs.Ytddkkakmlmadgaa
