/-
  Calls that wait: the chapter's example; a pile that there is not.
-/
import Derived.Test.YthddhipmmhihlaaDf4
namespace Go.Proofs.Ythddhipmmhihlaa
open Go.RowKit Go.Maps
set_option linter.unusedSimpArgs false
set_option linter.unusedVariables false
theorem pile_new (w : World) : PileW (w.alloc (.cells #[.slice none 0 0, .map none] 37)) w.heap.size none 0 none 0 [] := by
  obtain ⟨q0, f0⟩ := new_cells (w := w) (cs := #[.slice none 0 0, .map none]) (t := 37) (Below.refl _ _) 0 (.slice none 0 0) rfl
  obtain ⟨q1, f1⟩ := new_cells (w := w) (cs := #[.slice none 0 0, .map none]) (t := 37) (Below.refl _ _) 1 (.map none) rfl
  exact ⟨q0, f0, World.ownsRow_nil _ _ _ _, ⟨q1, f1, .inl ⟨rfl, fun f => rfl⟩⟩, fun p hp => by simp at hp⟩
theorem pile_some {w : World} {pb c k : Nat} {A : Option Addr} {mo : Option Nat} {ps : List PR} (h : PileW w pb A c mo k ps) (hn : 0 < ps.length) : ∃ r, A = some ⟨r, 0, none⟩ := by
  rcases h.row.2 with ⟨_, h0⟩ | ⟨g, cap, cur, hv, _⟩
  · omega
  · simp only [Value.slice.injEq, true_and] at hv
    exact ⟨g, hv.1⟩
theorem wf_1 : (Lit.int .i64 1).wf = true := by decide
theorem wf_2 : (Lit.int .i64 2).wf = true := by decide
theorem wf_3 : (Lit.int .i64 3).wf = true := by decide
set_option maxRecDepth 100000 in
set_option maxHeartbeats 4000000 in
theorem defers_lives (w : World) : Calls Try.prog 10 #[] w fun e w' => e = .returned (.bool true) ∧ Below w.heap.size w w' := by
  obtain ⟨w1, hw1⟩ : ∃ w1, w.alloc (.cells #[.slice none 0 0, .map none] 37) = w1 := ⟨_, rfl⟩
  have hp1 : PileW w1 w.heap.size none 0 none 0 [] := by rw [← hw1]; exact pile_new w
  have hb1 : Below w.heap.size w w1 := by rw [← hw1]; exact (Below.refl _ _).alloc (Nat.le_refl _) _
  have c1 := Lib.hid (push_any w.heap.size 0 0 none none [] 1 1 none 0 0 [] w1 hp1 wf_1 (SlR.nil_ _ _) (by decide) (by decide) (by decide))
  have HE := Lib.hid hw1
  have HB1 := Lib.hid hb1
  clear hp1 hb1 hw1
  go_enter Try.func10, Try.ntmps10
  go_wp2_with fail
  rw [HE.out]
  refine c1.out.mono ?_
  rintro e w2 ⟨⟨v2, rfl⟩, A2, k2, mo2, q1, hp2, hx1, hk2, hT2⟩
  have HB2 : Hid (Below w.heap.size w w2 ∧ ∀ j, Blk w.heap.size A2 mo2 j → w.heap.size ≤ j) := Lib.hid ⟨HB1.out.trans (hk2.below HB1.out.size (fun j hj => by rcases hj with rfl | h | h; exact Nat.le_refl _; cases h; cases h)), fun j hj => by
    have := HB1.out.size
    rcases hT2 j hj with h | h
    · rcases h with rfl | h | h; exact Nat.le_refl _; cases h; cases h
    · omega⟩
  have c2 := Lib.hid (push_any w.heap.size k2 1 A2 mo2 _ 2 2 none 0 0 [] w2 hp2 wf_2 (SlR.nil_ _ _) (by decide) (by simp) (by decide))
  have HX1 := Lib.hid hx1
  clear hp2 hx1 hk2 hT2 c1
  go_wp2_with fail
  refine c2.out.mono ?_
  rintro e w3 ⟨⟨v3, rfl⟩, A3, k3, mo3, q2, hp3, hx2, hk3, hT3⟩
  have HB3 : Hid (Below w.heap.size w w3 ∧ ∀ j, Blk w.heap.size A3 mo3 j → w.heap.size ≤ j) := Lib.hid ⟨HB2.out.1.trans (hk3.below HB2.out.1.size HB2.out.2), fun j hj => by
    have := HB2.out.1.size
    rcases hT3 j hj with h | h
    · exact HB2.out.2 j h
    · omega⟩
  have c3 := Lib.hid (push_any w.heap.size k3 2 A3 mo3 _ 1 3 none 0 0 [] w3 hp3 wf_1 (SlR.nil_ _ _) (by decide) (by simp) (by decide))
  have HX2 := Lib.hid hx2
  clear hp3 hx2 hk3 hT3 c2
  go_wp2_with fail
  refine c3.out.mono ?_
  rintro e w4 ⟨⟨v4, rfl⟩, A4, k4, mo4, q3, hp4, hx3, hk4, hT4⟩
  have HB4 : Hid (Below w.heap.size w w4 ∧ ∀ j, Blk w.heap.size A4 mo4 j → w.heap.size ≤ j) := Lib.hid ⟨HB3.out.1.trans (hk4.below HB3.out.1.size HB3.out.2), fun j hj => by
    have := HB3.out.1.size
    rcases hT4 j hj with h | h
    · exact HB3.out.2 j h
    · omega⟩
  simp only [List.nil_append, List.cons_append] at hp4
  obtain ⟨r, rfl⟩ := pile_some hp4 (by simp)
  have c4 := Lib.hid (take_some w.heap.size k4 3 r mo4 [q1, q2, q3] 1 2 q3 w4 hp4 wf_1 rfl (by rw [hx3]) (fun j q' hj hq => by
    have := (List.getElem?_eq_some_iff.1 hq).1
    simp at this
    omega) (by simp) (by decide))
  have HX3 := Lib.hid hx3
  clear hp4 hx3 hk4 hT4 c3
  go_wp2_with fail
  refine c4.out.mono ?_
  rintro e w5 ⟨rfl, mo5, hp5, hsl, hk5, hT5⟩
  have HB5 : Hid (Below w.heap.size w w5) := Lib.hid (HB4.out.1.trans (hk5.below HB4.out.1.size HB4.out.2))
  have hp5' : PileW w5 w.heap.size (some ⟨r, 0, none⟩) k4 mo5 4 [q1, q2] := hp5
  have e3 : cellsAgg q3 = .agg #[.int .i64 1, .int .i64 3, .slice q3.A q3.m q3.c] := by unfold cellsAgg; rw [HX3.out]
  obtain ⟨w6, hw6⟩ : ∃ w6, w5.alloc (.cells #[.int .i64 1, .int .i64 3, .slice q3.A q3.m q3.c] 26) = w6 := ⟨_, rfl⟩
  have hb6 : Below w5.heap.size w5 w6 := by rw [← hw6]; exact (Below.refl _ _).alloc (Nat.le_refl _) _
  have hp6 := hp5'.onB hb6
  have d1 := Lib.hid (pcount_any w.heap.size 2 k4 _ w6 hp6.c0)
  have n1 : cntP [q1, q2] 1 = 1 := by unfold cntP; simp [HX1.out, HX2.out]
  have n3 : cntP [q1, q2] 3 = 0 := by unfold cntP; simp [HX1.out, HX2.out]
  have d2 := pof_any w.heap.size mo5 4 _ 1 w6 hp6.mp wf_1
  have d3 := pof_any w.heap.size mo5 4 _ 3 w6 hp6.mp wf_3
  rw [n1] at d2
  rw [n3] at d3
  have D2 := Lib.hid d2
  have D3 := Lib.hid d3
  have HB6 : Hid (Below w.heap.size w w6) := Lib.hid (bl_trans HB5.out HB5.out.size hb6)
  have HE6 := Lib.hid hw6
  rw [e3]
  generalize q3.A = a3 at *
  generalize q3.m = m3 at *
  generalize q3.c = k9 at *
  clear hp5 hsl hk5 hT5 hp5' e3 hw6 hb6 hp6 n1 n3 d2 d3 c4
  go_wp2_with fail
  rw [HE6.out]
  refine d1.out.mono ?_
  rintro e w7 ⟨rfl, rfl⟩
  go_wp2_with fail
  refine D2.out.mono ?_
  rintro e w7 ⟨rfl, rfl⟩
  go_wp2_with fail
  refine D3.out.mono ?_
  rintro e w7 ⟨rfl, rfl⟩
  go_wp2_with fail
  go_ret
  exact ⟨rfl, HB6.out⟩
set_option maxRecDepth 100000 in
set_option maxHeartbeats 1000000 in
theorem defersNil_walk (n : Int) (w : World) (hn : (Lit.int .i64 n).wf = true) : Calls Try.prog 3 #[.int .i64 n] w fun e w' => e = .returned (.bool true) ∧ Below w.heap.size w w' := by
  have c1 := Lib.hid take_nil
  have c2 := Lib.hid pof_nil
  have c3 := Lib.hid pcount_nil
  go_enter Try.func3, Try.ntmps3
  go_wp2_with fail
  refine (push_nil (.int .i64 0) _ _ _ _ _ _).mono ?_
  rintro e w1 ⟨⟨v1, rfl⟩, hb1⟩
  have HB1 := Lib.hid hb1
  clear hb1
  go_wp2_with fail
  refine (c1.out _ _).mono ?_
  rintro e w2 ⟨rfl, hb2⟩
  have HB2 := Lib.hid (bl_trans HB1.out HB1.out.size hb2)
  clear hb2
  go_wp2_with fail
  refine (c3.out _).mono ?_
  rintro e w3 ⟨rfl, rfl⟩
  go_wp2_with fail
  refine (c2.out _ _).mono ?_
  rintro e w3 ⟨rfl, rfl⟩
  go_wp2_with fail
  refine (defers_lives _).mono ?_
  rintro e w4 ⟨rfl, hb4⟩
  have HB4 := Lib.hid hb4
  have HB9 : Hid (Below w.heap.size w w4) := Lib.hid (by
    have h1 : Below w.heap.size w (w2.alloc (.cells #[.int .i64 0, .int .i64 0, .slice none 0 0] 26)) := HB2.out.alloc HB2.out.size _
    exact h1.trans (hb4.mono h1.size))
  clear hb4
  go_wp2_with fail
  go_ret
  exact ⟨rfl, HB9.out⟩
end Go.Proofs.Ythddhipmmhihlaa
