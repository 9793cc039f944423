/-
  Sets of slots: whether all are below a number (out of r14's text).
-/
import Derived.Test.YtgjmmbhakjalgaaDoorSl12
import Derived.Test.YtgjmmbhakjalgaaDoorMp1
namespace Go.Proofs.YtgjmmbhakjalgaaDoor
open Go.RowKit
set_option linter.unusedSimpArgs false
set_option linter.unusedVariables false
def insW (s r : W4) : Bool := insB s.a0 s.a1 s.a2 s.a3 r.a0 r.a1 r.a2 r.a3
theorem rangeM_ok (f t : Int) : (rangeM f t).Ok := foldW_ok _ _ zW_ok
set_option maxRecDepth 100000 in
set_option maxHeartbeats 2000000 in
theorem below_any (s : W4) (t : Int) (w : World) : Calls Tryd.prog 17 #[aggW s, .int .i64 t] w fun e w' => e = .returned (.bool (insW s (rangeM 0 t))) ∧ Below w.heap.size w w' := by
  obtain ⟨w1, hw1⟩ : ∃ w1, w.alloc (.cells #[.int .u64 (s.a0 : Int), .int .u64 (s.a1 : Int), .int .u64 (s.a2 : Int), .int .u64 (s.a3 : Int)] 27) = w1 := ⟨_, rfl⟩
  have hb1 : Below w.heap.size w w1 := by rw [← hw1]; exact bl_one _
  have hs1 : w1.heap.size = w.heap.size + 1 := by rw [← hw1]; simp
  have EA : Hid (∀ W, Below w1.heap.size w1 W → W.cell? ⟨w.heap.size, 0, none⟩ = some (.int .u64 (s.a0 : Int)) ∧ W.cell? ⟨w.heap.size, 1, none⟩ = some (.int .u64 (s.a1 : Int)) ∧ W.cell? ⟨w.heap.size, 2, none⟩ = some (.int .u64 (s.a2 : Int)) ∧ W.cell? ⟨w.heap.size, 3, none⟩ = some (.int .u64 (s.a3 : Int))) := Lib.hid fun W hW => by
    have hl : w.heap.size < w1.heap.size := by omega
    have g : ∀ q, q < 4 → W.cell? ⟨w.heap.size, q, none⟩ = some (.int .u64 (s.get q : Int)) := fun q hq => (hW.cell (p := ⟨w.heap.size, q, none⟩) hl).trans (by rw [← hw1]; exact set_new w s q hq)
    exact ⟨g 0 (by omega), g 1 (by omega), g 2 (by omega), g 3 (by omega)⟩
  have cr := Lib.hid (fun w => range_any 0 t w (by omega) (by omega))
  have ci := Lib.hid (fun w => inside_any s.a0 s.a1 s.a2 s.a3 (rangeM 0 t).a0 (rangeM 0 t).a1 (rangeM 0 t).a2 (rangeM 0 t).a3 w)
  have hv : Hid (insB s.a0 s.a1 s.a2 s.a3 (rangeM 0 t).a0 (rangeM 0 t).a1 (rangeM 0 t).a2 (rangeM 0 t).a3 = insW s (rangeM 0 t)) := Lib.hid rfl
  rw [hv.out] at ci
  generalize insW s (rangeM 0 t) = v at *
  generalize rangeM 0 t = R at *
  have HE := Lib.hid hw1
  have HB1 := Lib.hid hb1
  have hS0 : Below w1.heap.size w1 w1.drew := (Below.refl _ _).drew
  clear hw1 hb1 hv
  go_enter Tryd.func17, Tryd.ntmps17
  go_wp2_with fail
  rw [HE.out]
  refine wp_region_held (S := fun W => Below w1.heap.size w1 W) (by kernel_rfl) ?_
  change wpAnyH _ _ _ _ _ _ _ _ (World.drew _)

  refine wpAnyH_take (i := 0) (v := aggW s) rfl (by kernel_rfl) (by kernel_rfl) (by kernel_rfl) (fun _ _ _ h => h) (Or.inl ⟨by rfl, by intro W hW; obtain ⟨a0, a1, a2, a3⟩ := EA.out W hW; go_simp; try (first | (with_reducible rfl) | omega)⟩) hS0 ?_
  refine wpAnyH_take (i := 1) (v := .int .i64 t) rfl (by kernel_rfl) (by kernel_rfl) (by kernel_rfl) (fun _ _ _ h => h) (Or.inl ⟨by rfl, by intro W hW; go_simp; try (first | (with_reducible rfl) | omega)⟩) hS0 ?_
  refine wpAnyH_one (i := 2) (by kernel_rfl) rfl (fun K hK => ?_)
  go_simp
  refine Calls.mono (cr.out _) ?_
  rintro e w2 ⟨rfl, hb2⟩
  have hS2 := bl_trans hS0 hS0.size hb2
  go_simp
  refine hK _ _ ⟨hS2, ?_⟩; clear hK K
  refine wpAnyH_one (i := 3) (by kernel_rfl) rfl (fun K hK => ?_)
  go_simp
  refine Calls.mono (ci.out _) ?_
  rintro e w3 ⟨rfl, hb3⟩
  have hS3 := bl_trans hS2 hS2.size hb3
  go_simp
  refine hK _ _ ⟨hS3, ?_⟩; clear hK K
  refine wpAnyH_one (i := 4) (by kernel_rfl) rfl (fun K hK => ?_)
  go_simp
  refine hK _ _ ⟨hS3, ?_⟩; clear hK K
  refine wpAnyH_done (by kernel_rfl) ?_ _
  go_wp2_with fail
  go_ret
  exact ⟨rfl, bl_trans HB1.out HB1.out.size hS3⟩
def eqW (s t : W4) : Bool := ((s.a0 : Int) == (t.a0 : Int)) && (((s.a1 : Int) == (t.a1 : Int)) && (((s.a2 : Int) == (t.a2 : Int)) && ((s.a3 : Int) == (t.a3 : Int))))
theorem eqW_iff (s t : W4) : eqW s t = true ↔ s = t := by
  unfold eqW
  constructor
  · intro h
    simp at h
    exact W4.ext4 (by omega) (by omega) (by omega) (by omega)
  · intro h
    subst h
    simp
end Go.Proofs.YtgjmmbhakjalgaaDoor
