/-
  Sets of slots: those of the first of two alone; whether one is inside the other.
-/
import Derived.Test.YtgjmmbhakjalgaaDoorHeld
import Derived.Test.YtgjmmbhakjalgaaDoorMpT
import Derived.RegionTactic
import Derived.ChangeAlike
import Derived.Deep.RegionWith
namespace Go.Proofs.YtgjmmbhakjalgaaDoor
open Go.RowKit
set_option linter.unusedSimpArgs false
set_option linter.unusedVariables false

theorem bl_one {w : World} (o : Obj) : Below w.heap.size w (w.alloc o) := (Below.refl _ _).alloc (Nat.le_refl _) _
abbrev aggU (a b c d : Int) : Value := .agg #[.int .u64 a, .int .u64 b, .int .u64 c, .int .u64 d]
def fU (x y : Int) : Int := bits .andNot .u64 x y
set_option maxRecDepth 100000 in
theorem subFn (x y : Int) (w : World) : Calls Tryd.prog 34 #[.int .u64 x, .int .u64 y] w fun e w' => e = .returned (.int .u64 (fU x y)) ∧ w = w' := by
  go_enter Tryd.func34, Tryd.ntmps34
  go_wp2
  go_ret
  exact ⟨rfl, rfl⟩
/-- The state of the loop. -/
structure Sta (w wr : World) (g : Nat) (c0 c1 c2 c3 b0 b1 b2 b3 : Int) : Prop where
  a0 : wr.cell? ⟨g, 0, none⟩ = some (.int .u64 c0)
  a1 : wr.cell? ⟨g, 1, none⟩ = some (.int .u64 c1)
  a2 : wr.cell? ⟨g, 2, none⟩ = some (.int .u64 c2)
  a3 : wr.cell? ⟨g, 3, none⟩ = some (.int .u64 c3)
  fa : ∀ j, wr.frozen? ⟨g, j, none⟩ = false
  y0 : wr.cell? ⟨g + 1, 0, none⟩ = some (.int .u64 b0)
  y1 : wr.cell? ⟨g + 1, 1, none⟩ = some (.int .u64 b1)
  y2 : wr.cell? ⟨g + 1, 2, none⟩ = some (.int .u64 b2)
  y3 : wr.cell? ⟨g + 1, 3, none⟩ = some (.int .u64 b3)
  r0 : wr.cell? ⟨g + 1 + 1, 0, none⟩ = some (.int .u64 0)
  r1 : wr.cell? ⟨g + 1 + 1, 1, none⟩ = some (.int .u64 0)
  r2 : wr.cell? ⟨g + 1 + 1, 2, none⟩ = some (.int .u64 0)
  r3 : wr.cell? ⟨g + 1 + 1, 3, none⟩ = some (.int .u64 0)
  fr : ∀ j, wr.frozen? ⟨g + 1 + 1, j, none⟩ = false
  bw : Below w.heap.size w wr
  sz : g + 1 + 1 < wr.heap.size
theorem sta_start (w : World) (a0 a1 a2 a3 b0 b1 b2 b3 : Int) : Sta w (((w.alloc (.cells #[.int .u64 a0, .int .u64 a1, .int .u64 a2, .int .u64 a3] 27)).alloc (.cells #[.int .u64 b0, .int .u64 b1, .int .u64 b2, .int .u64 b3] 27)).alloc (.cells #[.int .u64 0, .int .u64 0, .int .u64 0, .int .u64 0] 27)) w.heap.size a0 a1 a2 a3 b0 b1 b2 b3 := by
  constructor
  case bw => exact (((Below.refl _ _).alloc (Nat.le_refl _) _).alloc (by simp) _).alloc (by simp; omega) _
  all_goals simp [go_sem]
theorem Sta.drawn {w wr : World} {g : Nat} {c0 c1 c2 c3 b0 b1 b2 b3 : Int} (h : Sta w wr g c0 c1 c2 c3 b0 b1 b2 b3) (n : Nat) : Sta w (wr.drewN n) g c0 c1 c2 c3 b0 b1 b2 b3 :=
  ⟨h.a0, h.a1, h.a2, h.a3, h.fa, h.y0, h.y1, h.y2, h.y3, h.r0, h.r1, h.r2, h.r3, h.fr, below_drewN' h.bw n, h.sz⟩
theorem Sta.put0 {w wr : World} {g : Nat} {c0 c1 c2 c3 b0 b1 b2 b3 : Int} (h : Sta w wr g c0 c1 c2 c3 b0 b1 b2 b3) (hg : w.heap.size ≤ g) (v : Int) : Sta w (wr.setCell ⟨g, 0, none⟩ (.int .u64 v)) g v c1 c2 c3 b0 b1 b2 b3 := by
  have n1 : ¬ g = g + 1 := by omega
  have n2 : ¬ g = g + 1 + 1 := by omega
  constructor
  case bw => exact h.bw.setCell (p := ⟨g, 0, none⟩) hg _
  case sz => have := h.sz; simpa using this
  case fa => intro j; simpa [go_sem] using h.fa j
  case fr => intro j; simpa [go_sem] using h.fr j
  all_goals simp [go_sem, h.a0, h.a1, h.a2, h.a3, h.y0, h.y1, h.y2, h.y3, h.r0, h.r1, h.r2, h.r3, n1, n2]
theorem Sta.put1 {w wr : World} {g : Nat} {c0 c1 c2 c3 b0 b1 b2 b3 : Int} (h : Sta w wr g c0 c1 c2 c3 b0 b1 b2 b3) (hg : w.heap.size ≤ g) (v : Int) : Sta w (wr.setCell ⟨g, 1, none⟩ (.int .u64 v)) g c0 v c2 c3 b0 b1 b2 b3 := by
  have n1 : ¬ g = g + 1 := by omega
  have n2 : ¬ g = g + 1 + 1 := by omega
  constructor
  case bw => exact h.bw.setCell (p := ⟨g, 1, none⟩) hg _
  case sz => have := h.sz; simpa using this
  case fa => intro j; simpa [go_sem] using h.fa j
  case fr => intro j; simpa [go_sem] using h.fr j
  all_goals simp [go_sem, h.a0, h.a1, h.a2, h.a3, h.y0, h.y1, h.y2, h.y3, h.r0, h.r1, h.r2, h.r3, n1, n2]
theorem Sta.put2 {w wr : World} {g : Nat} {c0 c1 c2 c3 b0 b1 b2 b3 : Int} (h : Sta w wr g c0 c1 c2 c3 b0 b1 b2 b3) (hg : w.heap.size ≤ g) (v : Int) : Sta w (wr.setCell ⟨g, 2, none⟩ (.int .u64 v)) g c0 c1 v c3 b0 b1 b2 b3 := by
  have n1 : ¬ g = g + 1 := by omega
  have n2 : ¬ g = g + 1 + 1 := by omega
  constructor
  case bw => exact h.bw.setCell (p := ⟨g, 2, none⟩) hg _
  case sz => have := h.sz; simpa using this
  case fa => intro j; simpa [go_sem] using h.fa j
  case fr => intro j; simpa [go_sem] using h.fr j
  all_goals simp [go_sem, h.a0, h.a1, h.a2, h.a3, h.y0, h.y1, h.y2, h.y3, h.r0, h.r1, h.r2, h.r3, n1, n2]
theorem Sta.put3 {w wr : World} {g : Nat} {c0 c1 c2 c3 b0 b1 b2 b3 : Int} (h : Sta w wr g c0 c1 c2 c3 b0 b1 b2 b3) (hg : w.heap.size ≤ g) (v : Int) : Sta w (wr.setCell ⟨g, 3, none⟩ (.int .u64 v)) g c0 c1 c2 v b0 b1 b2 b3 := by
  have n1 : ¬ g = g + 1 := by omega
  have n2 : ¬ g = g + 1 + 1 := by omega
  constructor
  case bw => exact h.bw.setCell (p := ⟨g, 3, none⟩) hg _
  case sz => have := h.sz; simpa using this
  case fa => intro j; simpa [go_sem] using h.fa j
  case fr => intro j; simpa [go_sem] using h.fr j
  all_goals simp [go_sem, h.a0, h.a1, h.a2, h.a3, h.y0, h.y1, h.y2, h.y3, h.r0, h.r1, h.r2, h.r3, n1, n2]
def IsAgg (a b c d : Int) (w : World) (e : Ending) (w' : World) : Prop := e = .returned (aggU a b c d) ∧ Below w.heap.size w w'
set_option maxRecDepth 100000 in
set_option maxHeartbeats 2000000 in
theorem both_any (a0 a1 a2 a3 b0 b1 b2 b3 : Int) (w : World) : Calls Tryd.prog 33 #[aggU a0 a1 a2 a3, aggU b0 b1 b2 b3, .func (.func 34) #[] #[]] w (IsAgg (fU a0 b0) (fU a1 b1) (fU a2 b2) (fU a3 b3) w) := by
  have H0 := Lib.hid (sta_start w a0 a1 a2 a3 b0 b1 b2 b3)
  go_enter Tryd.func33, Tryd.ntmps33
  go_wp2_with fail
  go_loopw [8] (fun i wr => ∃ (k : Nat) (c0 c1 c2 c3 : Int), i = .int .i64 k ∧ k ≤ 4 ∧ Hid (Sta w wr w.heap.size c0 c1 c2 c3 b0 b1 b2 b3) ∧ Hid (c0 = (if 0 < k then fU a0 b0 else a0) ∧ c1 = (if 1 < k then fU a1 b1 else a1) ∧ c2 = (if 2 < k then fU a2 b2 else a2) ∧ c3 = (if 3 < k then fU a3 b3 else a3))) (fun i _ => 4 - (intOf i).toNat)
  case atStart => exact ⟨0, a0, a1, a2, a3, rfl, by omega, H0, Lib.hid ⟨rfl, rfl, rfl, rfl⟩⟩
  case round =>
    obtain ⟨k, c0, c1, c2, c3, rfl, hk, h, hc⟩ := hrel
    have q0 := h.out.a0
    have q1 := h.out.a1
    have q2 := h.out.a2
    have q3 := h.out.a3
    have p0 := h.out.y0
    have p1 := h.out.y1
    have p2 := h.out.y2
    have p3 := h.out.y3
    have fz := h.out.fa
    clear H0
    rcases (show k = 0 ∨ k = 1 ∨ k = 2 ∨ k = 3 ∨ k = 4 by omega) with rfl | rfl | rfl | rfl | rfl
    · have Hn := Lib.hid (h.out.put0 (Nat.le_refl _) (fU c0 b0))
      go_wp2_with fail
      go_region_with (first | (go_at_call 34; refine (subFn _ _ _).mono ?_; rintro e w9 ⟨rfl, rfl⟩))
      all_goals go_wp2_with fail
      all_goals go_roundw
      all_goals first
        | (case rel => exact ⟨1, fU c0 b0, c1, c2, c3, by go_num, by omega, Lib.hid (Hn.out.drawn _), Lib.hid (by
            obtain ⟨e0, e1, e2, e3⟩ := hc.out
            subst e0 e1 e2 e3
            exact ⟨rfl, rfl, rfl, rfl⟩)⟩)
        | (case measure => simp [intOf])
        | (simp [intOf]; done)
    · have Hn := Lib.hid (h.out.put1 (Nat.le_refl _) (fU c1 b1))
      go_wp2_with fail
      go_region_with (first | (go_at_call 34; refine (subFn _ _ _).mono ?_; rintro e w9 ⟨rfl, rfl⟩))
      all_goals go_wp2_with fail
      all_goals go_roundw
      all_goals first
        | (case rel => exact ⟨2, c0, fU c1 b1, c2, c3, by go_num, by omega, Lib.hid (Hn.out.drawn _), Lib.hid (by
            obtain ⟨e0, e1, e2, e3⟩ := hc.out
            subst e0 e1 e2 e3
            exact ⟨rfl, rfl, rfl, rfl⟩)⟩)
        | (case measure => simp [intOf])
        | (simp [intOf]; done)
    · have Hn := Lib.hid (h.out.put2 (Nat.le_refl _) (fU c2 b2))
      go_wp2_with fail
      go_region_with (first | (go_at_call 34; refine (subFn _ _ _).mono ?_; rintro e w9 ⟨rfl, rfl⟩))
      all_goals go_wp2_with fail
      all_goals go_roundw
      all_goals first
        | (case rel => exact ⟨3, c0, c1, fU c2 b2, c3, by go_num, by omega, Lib.hid (Hn.out.drawn _), Lib.hid (by
            obtain ⟨e0, e1, e2, e3⟩ := hc.out
            subst e0 e1 e2 e3
            exact ⟨rfl, rfl, rfl, rfl⟩)⟩)
        | (case measure => simp [intOf])
        | (simp [intOf]; done)
    · have Hn := Lib.hid (h.out.put3 (Nat.le_refl _) (fU c3 b3))
      go_wp2_with fail
      go_region_with (first | (go_at_call 34; refine (subFn _ _ _).mono ?_; rintro e w9 ⟨rfl, rfl⟩))
      all_goals go_wp2_with fail
      all_goals go_roundw
      all_goals first
        | (case rel => exact ⟨4, c0, c1, c2, fU c3 b3, by go_num, by omega, Lib.hid (Hn.out.drawn _), Lib.hid (by
            obtain ⟨e0, e1, e2, e3⟩ := hc.out
            subst e0 e1 e2 e3
            exact ⟨rfl, rfl, rfl, rfl⟩)⟩)
        | (case measure => simp [intOf])
        | (simp [intOf]; done)
    · have r0 := h.out.r0
      have r1 := h.out.r1
      have r2 := h.out.r2
      have r3 := h.out.r3
      have fr := h.out.fr
      have hne : ¬ w.heap.size + 1 + 1 = w.heap.size := by omega
      have hne' : ¬ w.heap.size = w.heap.size + 1 + 1 := by omega
      have HB := Lib.hid h.out.bw
      go_wp2_with fail
      obtain ⟨e0, e1, e2, e3⟩ := hc.out
      have HE := Lib.hid (And.intro e0 (And.intro e1 (And.intro e2 e3)))
      clear e0 e1 e2 e3
      refine bodyPost_ret (v := aggU c0 c1 c2 c3) (by simp [results, Tryd.results33, go_sem, q0, q1, q2, q3, r0, r1, r2, r3, fr, hne, hne']) rfl ⟨by rw [HE.out.1, HE.out.2.1, HE.out.2.2.1, HE.out.2.2.2]; rfl, ?_⟩
      exact (((HB.out.setCell (p := ⟨w.heap.size + 1 + 1, 0, none⟩) (by show w.heap.size ≤ w.heap.size + 1 + 1; omega) _).setCell (p := ⟨w.heap.size + 1 + 1, 1, none⟩) (by show w.heap.size ≤ w.heap.size + 1 + 1; omega) _).setCell (p := ⟨w.heap.size + 1 + 1, 2, none⟩) (by show w.heap.size ≤ w.heap.size + 1 + 1; omega) _).setCell (p := ⟨w.heap.size + 1 + 1, 3, none⟩) (by show w.heap.size ≤ w.heap.size + 1 + 1; omega) _
end Go.Proofs.YtgjmmbhakjalgaaDoor
