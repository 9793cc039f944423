/-
  Other numbers: instructions with other operands: the document's; the walk of RenumCode.
-/
import Derived.Test.YthfdmpcnebjkjaaRn10
namespace Go.Proofs.Ythfdmpcnebjkjaa
open Go.RowKit
set_option linter.unusedSimpArgs false
set_option linter.unusedVariables false

theorem src_instr (w : World) (cs : Array Value) (h : cs.size = 2) : SrcCells (w.alloc (.cells cs 49)) (some ⟨w.heap.size, 0, none⟩) 1 2 cs.toList :=
  own_src (World.ownsRow_lit (base := w.heap.size) (e := 49) (size := 2) w cs 1 (Nat.le_refl _) (by unfold maxLen; omega) (by omega))
theorem app_instr {w wr W w3 : World} {k c : Nat} {A : Option Addr} {l news : List Value} {v' : Value} (hb : Below w.heap.size w W) (hz : w.heap.size ≤ W.heap.size) (hown : wr.ownsRow w.heap.size 49 2 (.slice A k c) k l)
    (hown' : w3.ownsRow w.heap.size 49 2 v' (k + 1) (l ++ news)) (hgrow : W.grownBy w3 (Value.slice A k c).ownBlock) :
    ∃ A' c', v' = .slice A' (k + 1) c' ∧ w3.ownsRow w.heap.size 49 2 (.slice A' (k + 1) c') (k + 1) (l ++ news) ∧ Below w.heap.size w w3 ∧ w.heap.size ≤ w3.heap.size := by
  obtain ⟨A', c', hv, _⟩ := own_form hown'
  subst hv
  exact ⟨A', c', rfl, hown', Below.grown hb hgrow hz (fun j hj => (hown.lt _ hj).1), Nat.le_trans hz hgrow.size⟩
theorem instr_ways (pl : List Int) (m : Nat) (hm : pl.length = m) (s t : Int) (o a : Int) :
    ((o = 21 ∨ o = 22) ∧ a < 0 ∧ instrM pl s t ⟨o, a⟩ = ⟨o, a⟩) ∨ ((o = 21 ∨ o = 22) ∧ (0 ≤ a ∧ (m : Int) ≤ a) ∧ instrM pl s t ⟨o, a⟩ = ⟨o, a⟩) ∨ ((o = 21 ∨ o = 22) ∧ (∃ k : Nat, a = (k : Int) ∧ k < m ∧ instrM pl s t ⟨o, a⟩ = ⟨o, pl.getD k 0⟩)) ∨
    ((o = 2 ∨ o = 3) ∧ instrM pl s t ⟨o, a⟩ = ⟨o, wrap64 (a + s)⟩) ∨ ((o = 33 ∨ o = 34) ∧ instrM pl s t ⟨o, a⟩ = ⟨o, wrap64 (a + t)⟩) ∨
    ((¬ o = 21 ∧ ¬ o = 22 ∧ ¬ o = 2 ∧ ¬ o = 3 ∧ ¬ o = 33 ∧ ¬ o = 34) ∧ instrM pl s t ⟨o, a⟩ = ⟨o, a⟩) := by
  unfold instrM jumpM
  simp only [hm]
  by_cases h1 : o = 21 ∨ o = 22
  · rw [if_pos h1]
    by_cases h2 : 0 ≤ a ∧ a < (m : Int)
    · refine .inr (.inr (.inl ⟨h1, a.toNat, by omega, by omega, ?_⟩))
      rw [if_pos h2]
    · rw [if_neg h2]
      by_cases h3 : a < 0
      · exact .inl ⟨h1, h3, rfl⟩
      · exact .inr (.inl ⟨h1, by omega, rfl⟩)
  · rw [if_neg h1]
    by_cases h2 : o = 2 ∨ o = 3
    · rw [if_pos h2]
      exact .inr (.inr (.inr (.inl ⟨h2, rfl⟩)))
    · rw [if_neg h2]
      by_cases h3 : o = 33 ∨ o = 34
      · rw [if_pos h3]
        exact .inr (.inr (.inr (.inr (.inl ⟨h3, rfl⟩))))
      · rw [if_neg h3]
        exact .inr (.inr (.inr (.inr (.inr ⟨by omega, rfl⟩))))

set_option maxRecDepth 100000 in
set_option maxHeartbeats 4000000 in
theorem refCode_any (n c m d : Nat) (A P : Option Addr) (xs : List DInstr) (pl : List Int) (s t : Int) (w : World) (h : SlC w w.heap.size A n c xs) (hp : SlI w w.heap.size P m d pl) (hn : n ≤ 1000) (hm : m ≤ 3000) :
    Calls Try.prog 30 #[.slice A n c, .slice P m d, .int .i64 s, .int .i64 t] w (IsC n (xs.map (instrM pl s t)) w) := by
  obtain ⟨i0, hi, hz0, hz1, hz2⟩ := info_parts info_instr
  have H := Lib.hid h
  have HP := Lib.hid hp
  have HLn := Lib.hid h.1
  clear h hp
  go_enter Try.func30, Try.ntmps30
  go_wp2_with fail
  go_loopw [9, 10] (fun o i wr => ∃ (k : Nat) (A1 : Option Addr) (cc : Nat), o = .slice A1 k cc ∧ i = .int .i64 k ∧ k ≤ n ∧ Hid (wr.ownsRow w.heap.size 49 2 (.slice A1 k cc) k (((xs.map (instrM pl s t)).take k).flatMap cellsI)) ∧ Hid (Below w.heap.size w wr) ∧ Hid (w.heap.size ≤ wr.heap.size)) (fun _ i _ => n - (intOf i).toNat)
  case atStart => exact ⟨0, none, 0, rfl, rfl, Nat.zero_le _, Lib.hid (World.ownsRow_nil _ _ _ _), Lib.hid (Below.refl _ _), Lib.hid (Nat.le_refl _)⟩
  case round =>
    obtain ⟨k, A1, cc, rfl, rfl, hk, ho, hb, hz⟩ := hrel
    by_cases hlt : k < n
    · obtain ⟨bb, off, x, rfl, hbB, hx, r0, r1⟩ := slc_at H.out hlt
      have q0 : wr.cell? ⟨bb, off + k * 2, none⟩ = some (.int .i64 x.op) := (hb.out.cell hbB).trans r0
      have q1 : wr.cell? ⟨bb, off + k * 2 + 1, none⟩ = some (.int .i64 x.a) := (hb.out.cell hbB).trans r1
      have hy : (xs.map (instrM pl s t))[k]? = some (instrM pl s t x) := by
        rw [List.getElem?_map, hx]
        rfl
      have hsn := Lib.hid (flatMap_snoc cellsI _ k _ hy)
      have hk0 : (0 : Int) ≤ (k : Int) := by omega
      have hkn : (k : Int) < (n : Int) := by omega
      obtain ⟨xo, xa⟩ := x
      simp only at q0 q1
      have ways := instr_ways pl m HP.out.1 s t xo xa
      clear hx hy hbB r0 r1
      rcases ways with ⟨hop, ha, hv⟩ | ⟨hop, ⟨ha, ha'⟩, hv⟩ | ⟨hop, j, rfl, hj, hv⟩ | ⟨hop, hv⟩ | ⟨hop, hv⟩ | ⟨⟨e1, e2, e3, e4, e5, e6⟩, hv⟩
      · rw [hv] at hsn
        clear hv
        have hval := Lib.hid (rfl : (xa : Int) = xa)
        have hone : Hid (∀ u ∈ [Value.int .i64 xo, .int .i64 (xa)], u.oneCell' = true) := Lib.hid (by
          intro u hu
          simp at hu
          rcases hu with rfl | rfl <;> rfl)
        have hown := Lib.hid ((ho.out.alloc (.cells #[.int .i64 xo, .int .i64 (xa)] 49)).alloc (.cells #[.int .i64 xo, .int .i64 (xa)] 49))
        have hsrc := Lib.hid (src_instr (wr.alloc (.cells #[.int .i64 xo, .int .i64 (xa)] 49)) #[.int .i64 xo, .int .i64 (xa)] rfl)
        have hz9 : (wr.alloc (.cells #[.int .i64 xo, .int .i64 (xa)] 49)).heap.size = wr.heap.size + 1 := by simp
        rw [hz9] at hsrc
        have hzb : w.heap.size ≤ ((wr.alloc (.cells #[.int .i64 xo, .int .i64 (xa)] 49)).alloc (.cells #[.int .i64 xo, .int .i64 (xa)] 49)).heap.size := by have := hz.out; simp; omega
        have HB2 := Lib.hid ((hb.out.alloc hz.out (.cells #[.int .i64 xo, .int .i64 (xa)] 49)).alloc (by have := hz.out; simp; omega) (.cells #[.int .i64 xo, .int .i64 (xa)] 49))
        clear hz9
        rcases hop with rfl | rfl
        · go_wp2_with (first
            | (at_builtin; go_must (refine wpList_append_src _ rfl _ _ 23 rfl w.heap.size 49 i0 (.agg #[.int .i64 0, .int .i64 0]) 2 16 Try.underlying23 hi hz0 hz1 hz2 rfl (by decide) _ _ _ rfl hown.out (some ⟨wr.heap.size + 1, 0, none⟩) 1 1 [.int .i64 21, .int .i64 (xa)] rfl hsrc.out hone.out (by unfold maxLen; omega) (by omega) hzb ?_)
               intro v' w3 hown' hgrow3 hat3
               obtain ⟨A', c', rfl, o3, b3, z3⟩ := app_instr HB2.out hzb ho.out hown' hgrow3
               have O3 : Hid (w3.ownsRow w.heap.size 49 2 (.slice A' (k + 1) c') (k + 1) (List.flatMap cellsI (List.take (k + 1) (xs.map (instrM pl s t))))) := Lib.hid (by rw [← hsn.out]; exact o3)
               have B3 := Lib.hid b3
               have Z3 := Lib.hid z3
               clear hown' hgrow3 hat3 o3 b3 z3))
          go_roundw
          case rel => exact ⟨k + 1, A', c', rfl, by go_num, by omega, O3, B3, Z3⟩
          case measure => simp [intOf]; omega
        · go_wp2_with (first
            | (at_builtin; go_must (refine wpList_append_src _ rfl _ _ 23 rfl w.heap.size 49 i0 (.agg #[.int .i64 0, .int .i64 0]) 2 16 Try.underlying23 hi hz0 hz1 hz2 rfl (by decide) _ _ _ rfl hown.out (some ⟨wr.heap.size + 1, 0, none⟩) 1 1 [.int .i64 22, .int .i64 (xa)] rfl hsrc.out hone.out (by unfold maxLen; omega) (by omega) hzb ?_)
               intro v' w3 hown' hgrow3 hat3
               obtain ⟨A', c', rfl, o3, b3, z3⟩ := app_instr HB2.out hzb ho.out hown' hgrow3
               have O3 : Hid (w3.ownsRow w.heap.size 49 2 (.slice A' (k + 1) c') (k + 1) (List.flatMap cellsI (List.take (k + 1) (xs.map (instrM pl s t))))) := Lib.hid (by rw [← hsn.out]; exact o3)
               have B3 := Lib.hid b3
               have Z3 := Lib.hid z3
               clear hown' hgrow3 hat3 o3 b3 z3))
          go_roundw
          case rel => exact ⟨k + 1, A', c', rfl, by go_num, by omega, O3, B3, Z3⟩
          case measure => simp [intOf]; omega
      · rw [hv] at hsn
        clear hv
        have hval := Lib.hid (rfl : (xa : Int) = xa)
        have hone : Hid (∀ u ∈ [Value.int .i64 xo, .int .i64 (xa)], u.oneCell' = true) := Lib.hid (by
          intro u hu
          simp at hu
          rcases hu with rfl | rfl <;> rfl)
        have hown := Lib.hid ((ho.out.alloc (.cells #[.int .i64 xo, .int .i64 (xa)] 49)).alloc (.cells #[.int .i64 xo, .int .i64 (xa)] 49))
        have hsrc := Lib.hid (src_instr (wr.alloc (.cells #[.int .i64 xo, .int .i64 (xa)] 49)) #[.int .i64 xo, .int .i64 (xa)] rfl)
        have hz9 : (wr.alloc (.cells #[.int .i64 xo, .int .i64 (xa)] 49)).heap.size = wr.heap.size + 1 := by simp
        rw [hz9] at hsrc
        have hzb : w.heap.size ≤ ((wr.alloc (.cells #[.int .i64 xo, .int .i64 (xa)] 49)).alloc (.cells #[.int .i64 xo, .int .i64 (xa)] 49)).heap.size := by have := hz.out; simp; omega
        have HB2 := Lib.hid ((hb.out.alloc hz.out (.cells #[.int .i64 xo, .int .i64 (xa)] 49)).alloc (by have := hz.out; simp; omega) (.cells #[.int .i64 xo, .int .i64 (xa)] 49))
        clear hz9
        rcases hop with rfl | rfl
        · go_wp2_with (first
            | (at_builtin; go_must (refine wpList_append_src _ rfl _ _ 23 rfl w.heap.size 49 i0 (.agg #[.int .i64 0, .int .i64 0]) 2 16 Try.underlying23 hi hz0 hz1 hz2 rfl (by decide) _ _ _ rfl hown.out (some ⟨wr.heap.size + 1, 0, none⟩) 1 1 [.int .i64 21, .int .i64 (xa)] rfl hsrc.out hone.out (by unfold maxLen; omega) (by omega) hzb ?_)
               intro v' w3 hown' hgrow3 hat3
               obtain ⟨A', c', rfl, o3, b3, z3⟩ := app_instr HB2.out hzb ho.out hown' hgrow3
               have O3 : Hid (w3.ownsRow w.heap.size 49 2 (.slice A' (k + 1) c') (k + 1) (List.flatMap cellsI (List.take (k + 1) (xs.map (instrM pl s t))))) := Lib.hid (by rw [← hsn.out]; exact o3)
               have B3 := Lib.hid b3
               have Z3 := Lib.hid z3
               clear hown' hgrow3 hat3 o3 b3 z3))
          go_roundw
          case rel => exact ⟨k + 1, A', c', rfl, by go_num, by omega, O3, B3, Z3⟩
          case measure => simp [intOf]; omega
        · go_wp2_with (first
            | (at_builtin; go_must (refine wpList_append_src _ rfl _ _ 23 rfl w.heap.size 49 i0 (.agg #[.int .i64 0, .int .i64 0]) 2 16 Try.underlying23 hi hz0 hz1 hz2 rfl (by decide) _ _ _ rfl hown.out (some ⟨wr.heap.size + 1, 0, none⟩) 1 1 [.int .i64 22, .int .i64 (xa)] rfl hsrc.out hone.out (by unfold maxLen; omega) (by omega) hzb ?_)
               intro v' w3 hown' hgrow3 hat3
               obtain ⟨A', c', rfl, o3, b3, z3⟩ := app_instr HB2.out hzb ho.out hown' hgrow3
               have O3 : Hid (w3.ownsRow w.heap.size 49 2 (.slice A' (k + 1) c') (k + 1) (List.flatMap cellsI (List.take (k + 1) (xs.map (instrM pl s t))))) := Lib.hid (by rw [← hsn.out]; exact o3)
               have B3 := Lib.hid b3
               have Z3 := Lib.hid z3
               clear hown' hgrow3 hat3 o3 b3 z3))
          go_roundw
          case rel => exact ⟨k + 1, A', c', rfl, by go_num, by omega, O3, B3, Z3⟩
          case measure => simp [intOf]; omega
      · obtain ⟨bp, op, rfl, hbp, rp⟩ := HP.out.getD hj 0
        have qp : wr.cell? ⟨bp, op + j, none⟩ = some (.int .i64 (pl.getD j 0)) := (hb.out.cell hbp).trans rp
        obtain ⟨v, hvv⟩ : ∃ v, pl.getD j 0 = v := ⟨_, rfl⟩
        rw [hvv] at qp hv
        have hj0 : (0 : Int) ≤ (j : Int) := by omega
        have hjm : (j : Int) < (m : Int) := by omega
        have qp' : (wr.alloc (.cells #[.int .i64 xo, .int .i64 (j : Int)] 49)).cell? ⟨bp, op + j, none⟩ = some (.int .i64 v) := (World.cell?_alloc_lt _ _ _ (World.block_lt_of_cell? _ _ qp)).trans qp
        clear rp hbp hvv
        rw [hv] at hsn
        clear hv
        have hval := Lib.hid (rfl : (v : Int) = v)
        have hone : Hid (∀ u ∈ [Value.int .i64 xo, .int .i64 (v)], u.oneCell' = true) := Lib.hid (by
          intro u hu
          simp at hu
          rcases hu with rfl | rfl <;> rfl)
        have hown := Lib.hid ((ho.out.alloc (.cells #[.int .i64 xo, .int .i64 (v)] 49)).alloc (.cells #[.int .i64 xo, .int .i64 (v)] 49))
        have hsrc := Lib.hid (src_instr (wr.alloc (.cells #[.int .i64 xo, .int .i64 (v)] 49)) #[.int .i64 xo, .int .i64 (v)] rfl)
        have hz9 : (wr.alloc (.cells #[.int .i64 xo, .int .i64 (v)] 49)).heap.size = wr.heap.size + 1 := by simp
        rw [hz9] at hsrc
        have hzb : w.heap.size ≤ ((wr.alloc (.cells #[.int .i64 xo, .int .i64 (v)] 49)).alloc (.cells #[.int .i64 xo, .int .i64 (v)] 49)).heap.size := by have := hz.out; simp; omega
        have HB2 := Lib.hid ((hb.out.alloc hz.out (.cells #[.int .i64 xo, .int .i64 (v)] 49)).alloc (by have := hz.out; simp; omega) (.cells #[.int .i64 xo, .int .i64 (v)] 49))
        clear hz9
        rcases hop with rfl | rfl
        · go_wp2_with (first
            | (at_builtin; go_must (refine wpList_append_src _ rfl _ _ 23 rfl w.heap.size 49 i0 (.agg #[.int .i64 0, .int .i64 0]) 2 16 Try.underlying23 hi hz0 hz1 hz2 rfl (by decide) _ _ _ rfl hown.out (some ⟨wr.heap.size + 1, 0, none⟩) 1 1 [.int .i64 21, .int .i64 (v)] rfl hsrc.out hone.out (by unfold maxLen; omega) (by omega) hzb ?_)
               intro v' w3 hown' hgrow3 hat3
               obtain ⟨A', c', rfl, o3, b3, z3⟩ := app_instr HB2.out hzb ho.out hown' hgrow3
               have O3 : Hid (w3.ownsRow w.heap.size 49 2 (.slice A' (k + 1) c') (k + 1) (List.flatMap cellsI (List.take (k + 1) (xs.map (instrM pl s t))))) := Lib.hid (by rw [← hsn.out]; exact o3)
               have B3 := Lib.hid b3
               have Z3 := Lib.hid z3
               clear hown' hgrow3 hat3 o3 b3 z3))
          go_roundw
          case rel => exact ⟨k + 1, A', c', rfl, by go_num, by omega, O3, B3, Z3⟩
          case measure => simp [intOf]; omega
        · go_wp2_with (first
            | (at_builtin; go_must (refine wpList_append_src _ rfl _ _ 23 rfl w.heap.size 49 i0 (.agg #[.int .i64 0, .int .i64 0]) 2 16 Try.underlying23 hi hz0 hz1 hz2 rfl (by decide) _ _ _ rfl hown.out (some ⟨wr.heap.size + 1, 0, none⟩) 1 1 [.int .i64 22, .int .i64 (v)] rfl hsrc.out hone.out (by unfold maxLen; omega) (by omega) hzb ?_)
               intro v' w3 hown' hgrow3 hat3
               obtain ⟨A', c', rfl, o3, b3, z3⟩ := app_instr HB2.out hzb ho.out hown' hgrow3
               have O3 : Hid (w3.ownsRow w.heap.size 49 2 (.slice A' (k + 1) c') (k + 1) (List.flatMap cellsI (List.take (k + 1) (xs.map (instrM pl s t))))) := Lib.hid (by rw [← hsn.out]; exact o3)
               have B3 := Lib.hid b3
               have Z3 := Lib.hid z3
               clear hown' hgrow3 hat3 o3 b3 z3))
          go_roundw
          case rel => exact ⟨k + 1, A', c', rfl, by go_num, by omega, O3, B3, Z3⟩
          case measure => simp [intOf]; omega
      · rw [hv] at hsn
        clear hv
        have hval := Lib.hid (rfl : (wrap64 (xa + s) : Int) = wrap64 (xa + s))
        have hone : Hid (∀ u ∈ [Value.int .i64 xo, .int .i64 (wrap64 (xa + s))], u.oneCell' = true) := Lib.hid (by
          intro u hu
          simp at hu
          rcases hu with rfl | rfl <;> rfl)
        have hown := Lib.hid ((ho.out.alloc (.cells #[.int .i64 xo, .int .i64 (wrap64 (xa + s))] 49)).alloc (.cells #[.int .i64 xo, .int .i64 (wrap64 (xa + s))] 49))
        have hsrc := Lib.hid (src_instr (wr.alloc (.cells #[.int .i64 xo, .int .i64 (wrap64 (xa + s))] 49)) #[.int .i64 xo, .int .i64 (wrap64 (xa + s))] rfl)
        have hz9 : (wr.alloc (.cells #[.int .i64 xo, .int .i64 (wrap64 (xa + s))] 49)).heap.size = wr.heap.size + 1 := by simp
        rw [hz9] at hsrc
        have hzb : w.heap.size ≤ ((wr.alloc (.cells #[.int .i64 xo, .int .i64 (wrap64 (xa + s))] 49)).alloc (.cells #[.int .i64 xo, .int .i64 (wrap64 (xa + s))] 49)).heap.size := by have := hz.out; simp; omega
        have HB2 := Lib.hid ((hb.out.alloc hz.out (.cells #[.int .i64 xo, .int .i64 (wrap64 (xa + s))] 49)).alloc (by have := hz.out; simp; omega) (.cells #[.int .i64 xo, .int .i64 (wrap64 (xa + s))] 49))
        clear hz9
        rcases hop with rfl | rfl
        · go_wp2_with (first
            | (at_builtin; go_must (refine wpList_append_src _ rfl _ _ 23 rfl w.heap.size 49 i0 (.agg #[.int .i64 0, .int .i64 0]) 2 16 Try.underlying23 hi hz0 hz1 hz2 rfl (by decide) _ _ _ rfl hown.out (some ⟨wr.heap.size + 1, 0, none⟩) 1 1 [.int .i64 2, .int .i64 (wrap64 (xa + s))] rfl hsrc.out hone.out (by unfold maxLen; omega) (by omega) hzb ?_)
               intro v' w3 hown' hgrow3 hat3
               obtain ⟨A', c', rfl, o3, b3, z3⟩ := app_instr HB2.out hzb ho.out hown' hgrow3
               have O3 : Hid (w3.ownsRow w.heap.size 49 2 (.slice A' (k + 1) c') (k + 1) (List.flatMap cellsI (List.take (k + 1) (xs.map (instrM pl s t))))) := Lib.hid (by rw [← hsn.out]; exact o3)
               have B3 := Lib.hid b3
               have Z3 := Lib.hid z3
               clear hown' hgrow3 hat3 o3 b3 z3))
          go_roundw
          case rel => exact ⟨k + 1, A', c', rfl, by go_num, by omega, O3, B3, Z3⟩
          case measure => simp [intOf]; omega
        · go_wp2_with (first
            | (at_builtin; go_must (refine wpList_append_src _ rfl _ _ 23 rfl w.heap.size 49 i0 (.agg #[.int .i64 0, .int .i64 0]) 2 16 Try.underlying23 hi hz0 hz1 hz2 rfl (by decide) _ _ _ rfl hown.out (some ⟨wr.heap.size + 1, 0, none⟩) 1 1 [.int .i64 3, .int .i64 (wrap64 (xa + s))] rfl hsrc.out hone.out (by unfold maxLen; omega) (by omega) hzb ?_)
               intro v' w3 hown' hgrow3 hat3
               obtain ⟨A', c', rfl, o3, b3, z3⟩ := app_instr HB2.out hzb ho.out hown' hgrow3
               have O3 : Hid (w3.ownsRow w.heap.size 49 2 (.slice A' (k + 1) c') (k + 1) (List.flatMap cellsI (List.take (k + 1) (xs.map (instrM pl s t))))) := Lib.hid (by rw [← hsn.out]; exact o3)
               have B3 := Lib.hid b3
               have Z3 := Lib.hid z3
               clear hown' hgrow3 hat3 o3 b3 z3))
          go_roundw
          case rel => exact ⟨k + 1, A', c', rfl, by go_num, by omega, O3, B3, Z3⟩
          case measure => simp [intOf]; omega
      · rw [hv] at hsn
        clear hv
        have hval := Lib.hid (rfl : (wrap64 (xa + t) : Int) = wrap64 (xa + t))
        have hone : Hid (∀ u ∈ [Value.int .i64 xo, .int .i64 (wrap64 (xa + t))], u.oneCell' = true) := Lib.hid (by
          intro u hu
          simp at hu
          rcases hu with rfl | rfl <;> rfl)
        have hown := Lib.hid ((ho.out.alloc (.cells #[.int .i64 xo, .int .i64 (wrap64 (xa + t))] 49)).alloc (.cells #[.int .i64 xo, .int .i64 (wrap64 (xa + t))] 49))
        have hsrc := Lib.hid (src_instr (wr.alloc (.cells #[.int .i64 xo, .int .i64 (wrap64 (xa + t))] 49)) #[.int .i64 xo, .int .i64 (wrap64 (xa + t))] rfl)
        have hz9 : (wr.alloc (.cells #[.int .i64 xo, .int .i64 (wrap64 (xa + t))] 49)).heap.size = wr.heap.size + 1 := by simp
        rw [hz9] at hsrc
        have hzb : w.heap.size ≤ ((wr.alloc (.cells #[.int .i64 xo, .int .i64 (wrap64 (xa + t))] 49)).alloc (.cells #[.int .i64 xo, .int .i64 (wrap64 (xa + t))] 49)).heap.size := by have := hz.out; simp; omega
        have HB2 := Lib.hid ((hb.out.alloc hz.out (.cells #[.int .i64 xo, .int .i64 (wrap64 (xa + t))] 49)).alloc (by have := hz.out; simp; omega) (.cells #[.int .i64 xo, .int .i64 (wrap64 (xa + t))] 49))
        clear hz9
        rcases hop with rfl | rfl
        · go_wp2_with (first
            | (at_builtin; go_must (refine wpList_append_src _ rfl _ _ 23 rfl w.heap.size 49 i0 (.agg #[.int .i64 0, .int .i64 0]) 2 16 Try.underlying23 hi hz0 hz1 hz2 rfl (by decide) _ _ _ rfl hown.out (some ⟨wr.heap.size + 1, 0, none⟩) 1 1 [.int .i64 33, .int .i64 (wrap64 (xa + t))] rfl hsrc.out hone.out (by unfold maxLen; omega) (by omega) hzb ?_)
               intro v' w3 hown' hgrow3 hat3
               obtain ⟨A', c', rfl, o3, b3, z3⟩ := app_instr HB2.out hzb ho.out hown' hgrow3
               have O3 : Hid (w3.ownsRow w.heap.size 49 2 (.slice A' (k + 1) c') (k + 1) (List.flatMap cellsI (List.take (k + 1) (xs.map (instrM pl s t))))) := Lib.hid (by rw [← hsn.out]; exact o3)
               have B3 := Lib.hid b3
               have Z3 := Lib.hid z3
               clear hown' hgrow3 hat3 o3 b3 z3))
          go_roundw
          case rel => exact ⟨k + 1, A', c', rfl, by go_num, by omega, O3, B3, Z3⟩
          case measure => simp [intOf]; omega
        · go_wp2_with (first
            | (at_builtin; go_must (refine wpList_append_src _ rfl _ _ 23 rfl w.heap.size 49 i0 (.agg #[.int .i64 0, .int .i64 0]) 2 16 Try.underlying23 hi hz0 hz1 hz2 rfl (by decide) _ _ _ rfl hown.out (some ⟨wr.heap.size + 1, 0, none⟩) 1 1 [.int .i64 34, .int .i64 (wrap64 (xa + t))] rfl hsrc.out hone.out (by unfold maxLen; omega) (by omega) hzb ?_)
               intro v' w3 hown' hgrow3 hat3
               obtain ⟨A', c', rfl, o3, b3, z3⟩ := app_instr HB2.out hzb ho.out hown' hgrow3
               have O3 : Hid (w3.ownsRow w.heap.size 49 2 (.slice A' (k + 1) c') (k + 1) (List.flatMap cellsI (List.take (k + 1) (xs.map (instrM pl s t))))) := Lib.hid (by rw [← hsn.out]; exact o3)
               have B3 := Lib.hid b3
               have Z3 := Lib.hid z3
               clear hown' hgrow3 hat3 o3 b3 z3))
          go_roundw
          case rel => exact ⟨k + 1, A', c', rfl, by go_num, by omega, O3, B3, Z3⟩
          case measure => simp [intOf]; omega
      · rw [hv] at hsn
        clear hv
        have hval := Lib.hid (rfl : (xa : Int) = xa)
        have hone : Hid (∀ u ∈ [Value.int .i64 xo, .int .i64 (xa)], u.oneCell' = true) := Lib.hid (by
          intro u hu
          simp at hu
          rcases hu with rfl | rfl <;> rfl)
        have hown := Lib.hid ((ho.out.alloc (.cells #[.int .i64 xo, .int .i64 (xa)] 49)).alloc (.cells #[.int .i64 xo, .int .i64 (xa)] 49))
        have hsrc := Lib.hid (src_instr (wr.alloc (.cells #[.int .i64 xo, .int .i64 (xa)] 49)) #[.int .i64 xo, .int .i64 (xa)] rfl)
        have hz9 : (wr.alloc (.cells #[.int .i64 xo, .int .i64 (xa)] 49)).heap.size = wr.heap.size + 1 := by simp
        rw [hz9] at hsrc
        have hzb : w.heap.size ≤ ((wr.alloc (.cells #[.int .i64 xo, .int .i64 (xa)] 49)).alloc (.cells #[.int .i64 xo, .int .i64 (xa)] 49)).heap.size := by have := hz.out; simp; omega
        have HB2 := Lib.hid ((hb.out.alloc hz.out (.cells #[.int .i64 xo, .int .i64 (xa)] 49)).alloc (by have := hz.out; simp; omega) (.cells #[.int .i64 xo, .int .i64 (xa)] 49))
        clear hz9
        have t1 : (xo == 21) = false := by simpa using e1
        have t2 : (xo == 22) = false := by simpa using e2
        have t3 : (xo == 2) = false := by simpa using e3
        have t4 : (xo == 3) = false := by simpa using e4
        have t5 : (xo == 33) = false := by simpa using e5
        have t6 : (xo == 34) = false := by simpa using e6
        clear e1 e2 e3 e4 e5 e6
        go_wp2_with (first
          | (at_builtin; go_must (refine wpList_append_src _ rfl _ _ 23 rfl w.heap.size 49 i0 (.agg #[.int .i64 0, .int .i64 0]) 2 16 Try.underlying23 hi hz0 hz1 hz2 rfl (by decide) _ _ _ rfl hown.out (some ⟨wr.heap.size + 1, 0, none⟩) 1 1 [.int .i64 xo, .int .i64 (xa)] rfl hsrc.out hone.out (by unfold maxLen; omega) (by omega) hzb ?_)
             intro v' w3 hown' hgrow3 hat3
             obtain ⟨A', c', rfl, o3, b3, z3⟩ := app_instr HB2.out hzb ho.out hown' hgrow3
             have O3 : Hid (w3.ownsRow w.heap.size 49 2 (.slice A' (k + 1) c') (k + 1) (List.flatMap cellsI (List.take (k + 1) (xs.map (instrM pl s t))))) := Lib.hid (by rw [← hsn.out]; exact o3)
             have B3 := Lib.hid b3
             have Z3 := Lib.hid z3
             clear hown' hgrow3 hat3 o3 b3 z3))
        go_roundw
        case rel => exact ⟨k + 1, A', c', rfl, by go_num, by omega, O3, B3, Z3⟩
        case measure => simp [intOf]; omega
    · have hkn : k = n := by omega
      subst hkn
      have hfin := ho.out
      rw [List.take_of_length_le (by rw [List.length_map, HLn.out]; exact Nat.le_refl _)] at hfin
      have X := Lib.hid (SlR.of_ownN (sz := 2) (bytes := 16) (f := cellsI) (fun _ => rfl) (by omega) hfin (by unfold reachBytes; omega))
      have XO := Lib.hid hfin
      clear hfin
      go_wp2_with fail
      go_ret
      exact ⟨A1, cc, rfl, X.out, hb.out, XO.out⟩

set_option maxRecDepth 100000 in
set_option maxHeartbeats 1000000 in
theorem codes_same (n c c' : Nat) (A A' : Option Addr) (xs : List DInstr) (w : World) (h : SlC w w.heap.size A n c xs) (h' : SlC w w.heap.size A' n c' xs) (hn : n ≤ 100000) :
    Calls Try.prog 10 #[.slice A n c, .slice A' n c'] w fun e w' => e = .returned (.bool true) ∧ Below w.heap.size w w' := by
  have H := Lib.hid h
  have H' := Lib.hid h'
  have t0 : ((n : Int) != (n : Int)) = false := by simp
  clear h h'
  go_enter Try.func10, Try.ntmps10
  go_wp2_with fail
  go_loopw [5] (fun i wr => ∃ k : Nat, i = .int .i64 k ∧ k ≤ n ∧ Hid (Below w.heap.size w wr)) (fun i _ => n - (intOf i).toNat)
  case atStart => exact ⟨0, rfl, Nat.zero_le _, Lib.hid (Below.refl _ _)⟩
  case round =>
    obtain ⟨k, rfl, hk, hb⟩ := hrel
    by_cases hlt : k < n
    · obtain ⟨b, off, x, rfl, hbB, hx, r0, r1⟩ := slc_at H.out hlt
      obtain ⟨b', off', x', rfl, hbB', hx', s0, s1⟩ := slc_at H'.out hlt
      rw [hx] at hx'
      injection hx' with hx'
      subst hx'
      have q0 : wr.cell? ⟨b, off + k * 2, none⟩ = some (.int .i64 x.op) := (hb.out.cell hbB).trans r0
      have q1 : wr.cell? ⟨b, off + k * 2 + 1, none⟩ = some (.int .i64 x.a) := (hb.out.cell hbB).trans r1
      have p0 : wr.cell? ⟨b', off' + k * 2, none⟩ = some (.int .i64 x.op) := (hb.out.cell hbB').trans s0
      have p1 : wr.cell? ⟨b', off' + k * 2 + 1, none⟩ = some (.int .i64 x.a) := (hb.out.cell hbB').trans s1
      obtain ⟨x0, x1⟩ := x
      simp only at q0 q1 p0 p1
      have hka : (k : Int) < (n : Int) := by omega
      have hk0 : (0 : Int) ≤ (k : Int) := by omega
      clear r0 r1 s0 s1 hx hbB hbB'
      go_wp2_with fail
      go_quiet (fail)
      go_wp2_with fail
      go_roundw
      case rel => exact ⟨k + 1, by go_num, by omega, Lib.hid (below_drewN' hb.out _)⟩
      case measure => simp [intOf]; omega
    · have hkn : k = n := by omega
      subst hkn
      go_wp2_with fail
      go_ret
      exact ⟨rfl, hb.out⟩

end Go.Proofs.Ythfdmpcnebjkjaa
