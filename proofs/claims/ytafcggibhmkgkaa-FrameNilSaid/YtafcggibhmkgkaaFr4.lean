/-
  A frame: a new one with a parameter.
-/
import Derived.Test.YtafcggibhmkgkaaFr3
namespace Go.Proofs.Ytafcggibhmkgkaa
open Go.RowKit
set_option linter.unusedSimpArgs false
set_option linter.unusedVariables false
attribute [local go_sem] run_store_cplx
set_option maxRecDepth 100000 in
set_option maxHeartbeats 2000000 in
theorem new_one (b pb ab k l : Nat) (w : World) (h : PlainW w b (some ⟨pb, 0, none⟩) 1 1 k l) (hp : w.cell? ⟨pb, 0, none⟩ = some (.int .i64 1)) (ha0 : w.cell? ⟨ab, 0, none⟩ = some (.int .i64 1)) (ha1 : w.cell? ⟨ab, 1, none⟩ = some (.int .i64 5)) (ha2 : w.cell? ⟨ab, 2, none⟩ = some (.complex .f64 0 0)) :
    Calls Try.prog 10 #[progV b, .int .i64 0, .slice (some ⟨ab, 0, none⟩) 1 1, npV] w fun e w' => ∃ g r rc, e = .returned (.pointer (some ⟨g, 0, none⟩)) ∧ FrameW w' g (some ⟨pb, 0, none⟩) 1 1 k l (some ⟨r, 0, none⟩) rc ∧ w'.cell? ⟨r, 0, none⟩ = some (.int .i64 1) ∧ w'.cell? ⟨r, 1, none⟩ = some (.int .i64 5) ∧ w'.cell? ⟨r, 2, none⟩ = some (.complex .f64 0 0) ∧ w.heap.size ≤ g ∧ w.heap.size ≤ r ∧ r ≠ g ∧ Below w.heap.size w w' := by
  obtain ⟨w1, hw1⟩ : ∃ w1, w.alloc (.cells #[.slice (some ⟨b, 0, none⟩) 1 1] 37) = w1 := ⟨_, rfl⟩
  have b1 : Below w.heap.size w w1 := by rw [← hw1]; exact (Below.refl _ _).alloc (Nat.le_refl _) _
  have hb : b < w.heap.size := World.block_lt_of_cell? _ _ h.c0
  have q0 : w1.cell? ⟨b, 0, none⟩ = _ := (b1.cell hb).trans h.c0
  have q1 : w1.cell? ⟨b, 1, none⟩ = _ := (b1.cell hb).trans h.c1
  have q2 : w1.cell? ⟨b, 2, none⟩ = _ := (b1.cell hb).trans h.c2
  have q3 : w1.cell? ⟨b, 3, none⟩ = _ := (b1.cell hb).trans h.c3
  have q4 : w1.cell? ⟨b, 4, none⟩ = _ := (b1.cell hb).trans h.c4
  have q5 : w1.cell? ⟨b, 5, none⟩ = _ := (b1.cell hb).trans h.c5
  have q6 : w1.cell? ⟨b, 6, none⟩ = _ := (b1.cell hb).trans h.c6
  have q7 : w1.cell? ⟨b, 7, none⟩ = _ := (b1.cell hb).trans h.c7
  have q8 : w1.cell? ⟨b, 8, none⟩ = _ := (b1.cell hb).trans h.c8
  have q9 : w1.cell? ⟨b, 9, none⟩ = _ := (b1.cell hb).trans h.c9
  have q10 : w1.cell? ⟨b, 10, none⟩ = _ := (b1.cell hb).trans h.c10
  have p0 : w1.cell? ⟨w.heap.size, 0, none⟩ = some (.slice (some ⟨b, 0, none⟩) 1 1) := by rw [← hw1]; exact (new_cells (Below.refl _ _) 0 _ rfl).1
  have hl0 := h.l0
  have hpl : pb < w.heap.size := World.block_lt_of_cell? _ _ hp
  have hal : ab < w.heap.size := World.block_lt_of_cell? _ _ ha0
  have hll : l < w.heap.size := World.block_lt_of_cell? _ _ hl0
  have hsl : SlR 1 8 (RInt .i64) w w.heap.size (some ⟨pb, 0, none⟩) 1 1 [1] := by
    refine ⟨rfl, Nat.le_refl _, by unfold maxLen; omega, by unfold reachBytes; omega, fun _ => ⟨pb, 0, rfl, hpl, fun i x hi => ?_⟩⟩
    have hi0 : i = 0 := by have := (List.getElem?_eq_some_iff.1 hi).1; simp at this; omega
    subst hi0
    simp at hi
    subst hi
    refine ⟨[.int .i64 1], rfl, fun j u hj => ?_, rfl, by decide⟩
    have hj0 : j = 0 := by have := (List.getElem?_eq_some_iff.1 hj).1; simp at this; omega
    subst hj0
    simp at hj
    subst hj
    exact hp
  have c1 : Hid (∀ w1 : World, Below w.heap.size w w1 → Calls Try.prog 31 #[funV (some ⟨pb, 0, none⟩) 1 1 k l] w1 (IsTRow 1 [.int .i64 1] w1)) := Lib.hid fun w1 hw => slots_any (some ⟨pb, 0, none⟩) 1 1 w.heap.size k l [1] w1 (SlR.below (stable_int _) hsl hw) hw.size (by omega)
  subst hw1
  have HK := Lib.hid (And.intro hl0 (And.intro ha0 (And.intro ha1 ha2)))
  have HL := Lib.hid (And.intro hal hll)
  clear h b1 hb hl0 ha0 ha1 ha2 hp hal hll hpl hsl
  go_enter Try.func10, Try.ntmps10
  go_wp2_with fail
  refine (c1.out _ (((Below.refl _ _).alloc (Nat.le_refl _) _).alloc (by simp) _)).mono ?_
  rintro e w2 ⟨A2, c2, rfl, hown, hb⟩
  have hsz : (w.alloc (.cells #[.slice (some ⟨b, 0, none⟩) 1 1] 37)).heap.size = w.heap.size + 1 := by simp
  have HB2 : Hid (Below w.heap.size w w2) := Lib.hid (bl_trans (((Below.refl _ _).alloc (Nat.le_refl _) _).alloc (by simp) _) (by simp; omega) hb)
  have hs2 : w.heap.size + 2 ≤ w2.heap.size := by have := hb.size; simp at this; omega
  have hslT : SlR 1 8 (RC iC) w2 w2.heap.size A2 1 c2 [1] := SlR.of_ownN (f := iC) (fun _ => rfl) (by decide) hown (by unfold reachBytes; omega)
  have cr := row_any A2 1 c2 w2.heap.size [1] w2 (by
    obtain ⟨h1, h2, h3, h4, h5⟩ := hslT
    refine ⟨h1, h2, h3, h4, fun hn => ?_⟩
    obtain ⟨b, off, hA, hb, hx⟩ := h5 hn
    refine ⟨b, off, hA, hb, fun i x hi => ?_⟩
    obtain ⟨cs, hl, hc, hr⟩ := hx i x hi
    refine ⟨cs, hl, hc, hr, ?_⟩
    have hi0 : i = 0 := by have := (List.getElem?_eq_some_iff.1 hi).1; simp at this; omega
    subst hi0
    simp at hi
    subst hi
    decide) (Nat.le_refl _) (by omega)
  have CR := Lib.hid cr
  have HBB := Lib.hid hb
  clear hown hb hslT cr
  go_wp2_with fail
  refine CR.out.mono ?_
  rintro e w3 ⟨A3, c3, rfl, hown, hb⟩
  have hb := HBB.out.trans (hb.mono HBB.out.size)
  have N := fun i v h => new_cells (w := w.alloc (.cells #[.slice (some ⟨b, 0, none⟩) 1 1] 37)) hb i v h
  rw [hsz] at N
  have hB3 : Below w.heap.size w w3 := bl_trans (((Below.refl _ _).alloc (Nat.le_refl _) _).alloc (by simp) _) (by simp; omega) hb
  obtain ⟨r, rfl⟩ : ∃ r, A3 = some ⟨r, 0, none⟩ := by
    rcases hown.2 with ⟨_, h0⟩ | ⟨g', cap', cur, hv, _⟩
    · omega
    · simp only [Value.slice.injEq, true_and] at hv
      exact ⟨g', hv.1⟩
  have hr := hown.lt r rfl
  have r0 : w3.cell? ⟨r, 0, none⟩ = some (.int .i64 1) := hown.cellAt 0 (by omega)
  have r1 : w3.cell? ⟨r, 1, none⟩ = some (.int .i64 0) := hown.cellAt 1 (by omega)
  have r2 : w3.cell? ⟨r, 2, none⟩ = some (.complex .f64 0 0) := hown.cellAt 2 (by omega)
  have fr := fun j => hown.frozenAt j
  have hc3 : 1 ≤ c3 ∧ c3 ≤ maxLen := by
    rcases hown.2 with ⟨_, h0⟩ | ⟨g', cap', cur, hv, _, _, h3, h4, _⟩
    · omega
    · simp only [Value.slice.injEq, true_and] at hv
      obtain ⟨_, rfl⟩ := hv
      exact ⟨h3, h4⟩
  unfold maxLen at hc3
  have hrg : r ≠ w.heap.size + 1 := by omega
  obtain ⟨W, hW⟩ : ∃ W, w3.setCell ⟨w.heap.size + 1, 13, none⟩ (.slice (some ⟨r, 0, none⟩) 1 c3) = W := ⟨_, rfl⟩
  have k0 := (hB3.cell (p := ⟨l, 0, none⟩) HL.out.2).trans HK.out.1
  have k1 := (hB3.cell (p := ⟨ab, 0, none⟩) HL.out.1).trans HK.out.2.1
  have k2 := (hB3.cell (p := ⟨ab, 1, none⟩) HL.out.1).trans HK.out.2.2.1
  have k3 := (hB3.cell (p := ⟨ab, 2, none⟩) HL.out.1).trans HK.out.2.2.2
  have hal := HL.out.1
  have hll := HL.out.2
  have m : ∀ p : Addr, p.block ≠ w.heap.size + 1 → W.cell? p = w3.cell? p := fun p hp => by rw [← hW]; exact World.cell?_setCell_far _ _ _ _ (Ne.symm hp)
  have mf : ∀ p, W.frozen? p = w3.frozen? p := fun p => by rw [← hW]; exact World.frozen?_setCell _ _ _ _
  have mg : ∀ i v, i ≠ 13 → w3.cell? ⟨w.heap.size + 1, i, none⟩ = some v → W.cell? ⟨w.heap.size + 1, i, none⟩ = some v := fun i v hi hv => by
    rw [← hW, World.cell?_setCell_other _ _ _ _ (by simp; try omega)]
    exact hv
  have m13 : W.cell? ⟨w.heap.size + 1, 13, none⟩ = some (.slice (some ⟨r, 0, none⟩) 1 c3) := by rw [← hW]; have := (N 13 _ rfl).1; simp [go_sem, this]
  have hcp := run_copy_val W.drew r c3 1 3 ⟨ab, 0, none⟩ [.int .i64 1, .int .i64 5, .complex .f64 0 0] rfl (fun j v hj => by
      rw [addr_add, Nat.zero_add]
      have hj3 : j < 3 := (List.getElem?_eq_some_iff.1 hj).1
      have e : W.drew.cell? ⟨ab, j, none⟩ = w3.cell? ⟨ab, j, none⟩ := m _ (by show ab ≠ _; omega)
      rw [e]
      match j, hj3 with
      | 0, _ => rw [k1]; simpa using hj
      | 1, _ => rw [k2]; simpa using hj
      | 2, _ => rw [k3]; simpa using hj) (fun j hj => by
      have e : W.drew.cell? ⟨r, 0 + j, none⟩ = w3.cell? ⟨r, 0 + j, none⟩ := m _ hrg
      rw [e]
      match j, hj with
      | 0, _ => simp [r0]
      | 1, _ => simp [r1]
      | 2, _ => simp [r2]) (fun j hj => (mf _).trans (fr _)) (by simp [Value.oneCell'])
  have g3 := mg 3 _ (by decide) (N 3 _ rfl).1
  have HF : Hid (FrameW (W.drew.setCells r 0 [.int .i64 1, .int .i64 5, .complex .f64 0 0]) (w.heap.size + 1) (some ⟨pb, 0, none⟩) 1 1 k l (some ⟨r, 0, none⟩) c3) := Lib.hid (by
    have far : ∀ p : Addr, p.block ≠ r → (W.drew.setCells r 0 [.int .i64 1, .int .i64 5, .complex .f64 0 0]).cell? p = W.cell? p := fun p hp => by
      simp only [World.setCells]
      rw [World.cell?_setCell_far _ _ _ _ (Ne.symm hp), World.cell?_setCell_far _ _ _ _ (Ne.symm hp), World.cell?_setCell_far _ _ _ _ (Ne.symm hp)]
      rfl
    have ff : ∀ p : Addr, (W.drew.setCells r 0 [.int .i64 1, .int .i64 5, .complex .f64 0 0]).frozen? p = w3.frozen? p := fun p => by
      simp only [World.setCells, World.frozen?_setCell]
      exact mf p
    exact ⟨(far _ (Ne.symm hrg)).trans (mg 0 _ (by decide) (N 0 _ rfl).1), (far _ (Ne.symm hrg)).trans g3, (far _ (Ne.symm hrg)).trans (mg 4 _ (by decide) (N 4 _ rfl).1), (far _ (Ne.symm hrg)).trans (mg 7 _ (by decide) (N 7 _ rfl).1), (far _ (Ne.symm hrg)).trans (mg 11 _ (by decide) (N 11 _ rfl).1), (far _ (Ne.symm hrg)).trans (mg 12 _ (by decide) (N 12 _ rfl).1), (far _ (Ne.symm hrg)).trans m13, (far _ (Ne.symm hrg)).trans (mg 14 _ (by decide) (N 14 _ rfl).1), (ff _).trans (N 13 _ rfl).2, (ff _).trans (N 14 _ rfl).2, ((far ⟨l, 0, none⟩ (by show l ≠ r; omega)).trans (m _ (by show l ≠ _; omega))).trans k0⟩)
  have HR : Hid ((W.drew.setCells r 0 [.int .i64 1, .int .i64 5, .complex .f64 0 0]).cell? ⟨r, 0, none⟩ = some (.int .i64 1) ∧ (W.drew.setCells r 0 [.int .i64 1, .int .i64 5, .complex .f64 0 0]).cell? ⟨r, 1, none⟩ = some (.int .i64 5) ∧ (W.drew.setCells r 0 [.int .i64 1, .int .i64 5, .complex .f64 0 0]).cell? ⟨r, 2, none⟩ = some (.complex .f64 0 0)) := Lib.hid (by
    have z0 : W.cell? ⟨r, 0, none⟩ = some (.int .i64 1) := (m _ hrg).trans r0
    have z1 : W.cell? ⟨r, 1, none⟩ = some (.int .i64 0) := (m _ hrg).trans r1
    have z2 : W.cell? ⟨r, 2, none⟩ = some (.complex .f64 0 0) := (m _ hrg).trans r2
    simp [World.setCells, go_sem, z0, z1, z2])
  have HW : Hid (Below w.heap.size w (W.drew.setCells r 0 [.int .i64 1, .int .i64 5, .complex .f64 0 0])) := Lib.hid (by
    have h0 : Below w.heap.size w W := by rw [← hW]; exact hB3.setCell (p := ⟨w.heap.size + 1, 13, none⟩) (Nat.le_succ _) _
    simp only [World.setCells]
    exact ((h0.drew.setCell (p := ⟨r, 0, none⟩) (by show w.heap.size ≤ r; omega) _).setCell (p := ⟨r, 0 + 1, none⟩) (by show w.heap.size ≤ r; omega) _).setCell (p := ⟨r, 0 + 1 + 1, none⟩) (by show w.heap.size ≤ r; omega) _)
  have HO : Hid (w.heap.size ≤ r ∧ r ≠ w.heap.size + 1) := Lib.hid ⟨by omega, hrg⟩
  have n13 := (N 13 _ rfl).1
  have nf13 := (N 13 _ rfl).2
  have HE := Lib.hid hW
  generalize W.drew.setCells r 0 [.int .i64 1, .int .i64 5, .complex .f64 0 0] = W9 at *
  clear hB3 hown hb N hr r0 r1 r2 fr k0 k1 k2 k3 m mf mg hW hal hll hs2 hsz HBB CR c1
  go_wp2_with fail
  rw [HE.out]
  go_region
  all_goals go_wp2_with fail
  all_goals go_ret
  all_goals exact ⟨w.heap.size + 1, r, c3, rfl, HF.out, HR.out.1, HR.out.2.1, HR.out.2.2, by omega, HO.out.1, HO.out.2, HW.out⟩
end Go.Proofs.Ytafcggibhmkgkaa
