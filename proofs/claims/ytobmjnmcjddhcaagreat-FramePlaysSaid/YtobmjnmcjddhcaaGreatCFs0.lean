import Derived.Test.YtobmjnmcjddhcaaGreatCSt1
set_option linter.unusedSimpArgs false
set_option linter.unusedVariables false
set_option maxRecDepth 100000
set_option maxHeartbeats 2000000
namespace Go.Proofs.YtobmjnmcjddhcaaGreat
open Go.RowKit
def oU (x y : Int) : Int := bits .or .u64 x y
theorem refOr_any (a0 a1 a2 a3 b0 b1 b2 b3 : Int) (w : World) : Calls Tryz.prog 155 #[aggU a0 a1 a2 a3, aggU b0 b1 b2 b3] w (IsAgg (oU a0 b0) (oU a1 b1) (oU a2 b2) (oU a3 b3) w) := by
 have H0 := Lib.hid (sta_start w a0 a1 a2 a3 b0 b1 b2 b3)
 go_enter Tryz.func155, Tryz.ntmps155
 go_wp2_with fail
 go_loopw [5] (fun i wr => ∃ (k : Nat) (c0 c1 c2 c3 : Int), i = .int .i64 k ∧ k ≤ 4 ∧ Hid (Sta w wr w.heap.size c0 c1 c2 c3 b0 b1 b2 b3) ∧ Hid (c0 = (if 0 < k then oU a0 b0 else a0) ∧ c1 = (if 1 < k then oU a1 b1 else a1) ∧ c2 = (if 2 < k then oU a2 b2 else a2) ∧ c3 = (if 3 < k then oU a3 b3 else a3))) (fun i _ => 4 - (intOf i).toNat)
 case atStart => exact ⟨0, a0, a1, a2, a3, rfl, by omega, H0, Lib.hid ⟨rfl, rfl, rfl, rfl⟩⟩
 case round =>
  obtain ⟨k, c0, c1, c2, c3, rfl, hk, h, hc⟩ := hrel
  have q0 := h.out.a0
  have q1 := h.out.a1
  have q2 := h.out.a2
  have q3 := h.out.a3
  have p0 := h.out.y0
  have p1 := h.out.y1
  have p2 := h.out.y2
  have p3 := h.out.y3
  have fz := h.out.fa
  clear H0
  rcases (show k = 0 ∨ k = 1 ∨ k = 2 ∨ k = 3 ∨ k = 4 by omega) with rfl | rfl | rfl | rfl | rfl
  ·have Hn := Lib.hid (h.out.put0 (Nat.le_refl _) (oU c0 b0))
   go_wp2_with fail
   go_region
   all_goals go_wp2_with fail
   all_goals go_roundw
   all_goals first
    | (case rel => exact ⟨1, oU c0 b0, c1, c2, c3, by go_num, by omega, Lib.hid (Hn.out.drawn _), Lib.hid (by
      obtain ⟨e0, e1, e2, e3⟩ := hc.out
      subst e0 e1 e2 e3
      exact ⟨rfl, rfl, rfl, rfl⟩)⟩)
    | (case measure => simp [intOf])
    | (simp [intOf]; done)
  ·have Hn := Lib.hid (h.out.put1 (Nat.le_refl _) (oU c1 b1))
   go_wp2_with fail
   go_region
   all_goals go_wp2_with fail
   all_goals go_roundw
   all_goals first
    | (case rel => exact ⟨2, c0, oU c1 b1, c2, c3, by go_num, by omega, Lib.hid (Hn.out.drawn _), Lib.hid (by
      obtain ⟨e0, e1, e2, e3⟩ := hc.out
      subst e0 e1 e2 e3
      exact ⟨rfl, rfl, rfl, rfl⟩)⟩)
    | (case measure => simp [intOf])
    | (simp [intOf]; done)
  ·have Hn := Lib.hid (h.out.put2 (Nat.le_refl _) (oU c2 b2))
   go_wp2_with fail
   go_region
   all_goals go_wp2_with fail
   all_goals go_roundw
   all_goals first
    | (case rel => exact ⟨3, c0, c1, oU c2 b2, c3, by go_num, by omega, Lib.hid (Hn.out.drawn _), Lib.hid (by
      obtain ⟨e0, e1, e2, e3⟩ := hc.out
      subst e0 e1 e2 e3
      exact ⟨rfl, rfl, rfl, rfl⟩)⟩)
    | (case measure => simp [intOf])
    | (simp [intOf]; done)
  ·have Hn := Lib.hid (h.out.put3 (Nat.le_refl _) (oU c3 b3))
   go_wp2_with fail
   go_region
   all_goals go_wp2_with fail
   all_goals go_roundw
   all_goals first
    | (case rel => exact ⟨4, c0, c1, c2, oU c3 b3, by go_num, by omega, Lib.hid (Hn.out.drawn _), Lib.hid (by
      obtain ⟨e0, e1, e2, e3⟩ := hc.out
      subst e0 e1 e2 e3
      exact ⟨rfl, rfl, rfl, rfl⟩)⟩)
    | (case measure => simp [intOf])
    | (simp [intOf]; done)
  ·have r0 := h.out.r0
   have r1 := h.out.r1
   have r2 := h.out.r2
   have r3 := h.out.r3
   have fr := h.out.fr
   have hne : ¬ w.heap.size + 1 + 1 = w.heap.size := by omega
   have hne' : ¬ w.heap.size = w.heap.size + 1 + 1 := by omega
   have HB := Lib.hid h.out.bw
   go_wp2_with fail
   obtain ⟨e0, e1, e2, e3⟩ := hc.out
   have HE := Lib.hid (And.intro e0 (And.intro e1 (And.intro e2 e3)))
   clear e0 e1 e2 e3
   refine bodyPost_ret (v := aggU c0 c1 c2 c3) (by simp [results, Tryz.results155, go_sem, q0, q1, q2, q3, r0, r1, r2, r3, fr, hne, hne']) rfl ⟨by rw [HE.out.1, HE.out.2.1, HE.out.2.2.1, HE.out.2.2.2]; rfl, ?_⟩
   exact (((HB.out.setCell (p := ⟨w.heap.size + 1 + 1, 0, none⟩) (by show w.heap.size ≤ w.heap.size + 1 + 1; omega) _).setCell (p := ⟨w.heap.size + 1 + 1, 1, none⟩) (by show w.heap.size ≤ w.heap.size + 1 + 1; omega) _).setCell (p := ⟨w.heap.size + 1 + 1, 2, none⟩) (by show w.heap.size ≤ w.heap.size + 1 + 1; omega) _).setCell (p := ⟨w.heap.size + 1 + 1, 3, none⟩) (by show w.heap.size ≤ w.heap.size + 1 + 1; omega) _
end Go.Proofs.YtobmjnmcjddhcaaGreat
