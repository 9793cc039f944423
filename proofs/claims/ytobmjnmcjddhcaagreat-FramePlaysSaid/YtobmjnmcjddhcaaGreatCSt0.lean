import Derived.Test.YtobmjnmcjddhcaaGreatCB1
import Derived.RegionTactic
import Derived.ChangeAlike
import Derived.Deep.RegionWith
import Derived.Laws.StructEq
set_option linter.unusedSimpArgs false
set_option linter.unusedVariables false
set_option maxRecDepth 100000
set_option maxHeartbeats 4000000
namespace Go.Proofs.YtobmjnmcjddhcaaGreat
open Go.RowKit
abbrev aggU (a b c d : Int) : Value := .agg #[.int .u64 a, .int .u64 b, .int .u64 c, .int .u64 d]
def fU (x y : Int) : Int := bits .andNot .u64 x y
structure Sta (w wr : World) (g : Nat) (c0 c1 c2 c3 b0 b1 b2 b3 : Int) : Prop where
 a0 : wr.cell? ⟨g, 0, none⟩ = some (.int .u64 c0)
 a1 : wr.cell? ⟨g, 1, none⟩ = some (.int .u64 c1)
 a2 : wr.cell? ⟨g, 2, none⟩ = some (.int .u64 c2)
 a3 : wr.cell? ⟨g, 3, none⟩ = some (.int .u64 c3)
 fa : ∀ j, wr.frozen? ⟨g, j, none⟩ = false
 y0 : wr.cell? ⟨g + 1, 0, none⟩ = some (.int .u64 b0)
 y1 : wr.cell? ⟨g + 1, 1, none⟩ = some (.int .u64 b1)
 y2 : wr.cell? ⟨g + 1, 2, none⟩ = some (.int .u64 b2)
 y3 : wr.cell? ⟨g + 1, 3, none⟩ = some (.int .u64 b3)
 r0 : wr.cell? ⟨g + 1 + 1, 0, none⟩ = some (.int .u64 0)
 r1 : wr.cell? ⟨g + 1 + 1, 1, none⟩ = some (.int .u64 0)
 r2 : wr.cell? ⟨g + 1 + 1, 2, none⟩ = some (.int .u64 0)
 r3 : wr.cell? ⟨g + 1 + 1, 3, none⟩ = some (.int .u64 0)
 fr : ∀ j, wr.frozen? ⟨g + 1 + 1, j, none⟩ = false
 bw : Below w.heap.size w wr
 sz : g + 1 + 1 < wr.heap.size
theorem sta_start (w : World) (a0 a1 a2 a3 b0 b1 b2 b3 : Int) : Sta w (((w.alloc (.cells #[.int .u64 a0, .int .u64 a1, .int .u64 a2, .int .u64 a3] 216)).alloc (.cells #[.int .u64 b0, .int .u64 b1, .int .u64 b2, .int .u64 b3] 216)).alloc (.cells #[.int .u64 0, .int .u64 0, .int .u64 0, .int .u64 0] 216)) w.heap.size a0 a1 a2 a3 b0 b1 b2 b3 := by
 constructor
 case bw => exact (((Below.refl _ _).alloc (Nat.le_refl _) _).alloc (by simp) _).alloc (by simp; omega) _
 all_goals simp [go_sem]
theorem Sta.drawn {w wr : World} {g : Nat} {c0 c1 c2 c3 b0 b1 b2 b3 : Int} (h : Sta w wr g c0 c1 c2 c3 b0 b1 b2 b3) (n : Nat) : Sta w (wr.drewN n) g c0 c1 c2 c3 b0 b1 b2 b3 :=
 ⟨h.a0, h.a1, h.a2, h.a3, h.fa, h.y0, h.y1, h.y2, h.y3, h.r0, h.r1, h.r2, h.r3, h.fr, below_drewN' h.bw n, h.sz⟩
theorem Sta.put0 {w wr : World} {g : Nat} {c0 c1 c2 c3 b0 b1 b2 b3 : Int} (h : Sta w wr g c0 c1 c2 c3 b0 b1 b2 b3) (hg : w.heap.size ≤ g) (v : Int) : Sta w (wr.setCell ⟨g, 0, none⟩ (.int .u64 v)) g v c1 c2 c3 b0 b1 b2 b3 := by
 have n1 : ¬ g = g + 1 := by omega
 have n2 : ¬ g = g + 1 + 1 := by omega
 constructor
 case bw => exact h.bw.setCell (p := ⟨g, 0, none⟩) hg _
 case sz => have := h.sz; simpa using this
 case fa => intro j; simpa [go_sem] using h.fa j
 case fr => intro j; simpa [go_sem] using h.fr j
 all_goals simp [go_sem, h.a0, h.a1, h.a2, h.a3, h.y0, h.y1, h.y2, h.y3, h.r0, h.r1, h.r2, h.r3, n1, n2]
theorem Sta.put1 {w wr : World} {g : Nat} {c0 c1 c2 c3 b0 b1 b2 b3 : Int} (h : Sta w wr g c0 c1 c2 c3 b0 b1 b2 b3) (hg : w.heap.size ≤ g) (v : Int) : Sta w (wr.setCell ⟨g, 1, none⟩ (.int .u64 v)) g c0 v c2 c3 b0 b1 b2 b3 := by
 have n1 : ¬ g = g + 1 := by omega
 have n2 : ¬ g = g + 1 + 1 := by omega
 constructor
 case bw => exact h.bw.setCell (p := ⟨g, 1, none⟩) hg _
 case sz => have := h.sz; simpa using this
 case fa => intro j; simpa [go_sem] using h.fa j
 case fr => intro j; simpa [go_sem] using h.fr j
 all_goals simp [go_sem, h.a0, h.a1, h.a2, h.a3, h.y0, h.y1, h.y2, h.y3, h.r0, h.r1, h.r2, h.r3, n1, n2]
theorem Sta.put2 {w wr : World} {g : Nat} {c0 c1 c2 c3 b0 b1 b2 b3 : Int} (h : Sta w wr g c0 c1 c2 c3 b0 b1 b2 b3) (hg : w.heap.size ≤ g) (v : Int) : Sta w (wr.setCell ⟨g, 2, none⟩ (.int .u64 v)) g c0 c1 v c3 b0 b1 b2 b3 := by
 have n1 : ¬ g = g + 1 := by omega
 have n2 : ¬ g = g + 1 + 1 := by omega
 constructor
 case bw => exact h.bw.setCell (p := ⟨g, 2, none⟩) hg _
 case sz => have := h.sz; simpa using this
 case fa => intro j; simpa [go_sem] using h.fa j
 case fr => intro j; simpa [go_sem] using h.fr j
 all_goals simp [go_sem, h.a0, h.a1, h.a2, h.a3, h.y0, h.y1, h.y2, h.y3, h.r0, h.r1, h.r2, h.r3, n1, n2]
theorem Sta.put3 {w wr : World} {g : Nat} {c0 c1 c2 c3 b0 b1 b2 b3 : Int} (h : Sta w wr g c0 c1 c2 c3 b0 b1 b2 b3) (hg : w.heap.size ≤ g) (v : Int) : Sta w (wr.setCell ⟨g, 3, none⟩ (.int .u64 v)) g c0 c1 c2 v b0 b1 b2 b3 := by
 have n1 : ¬ g = g + 1 := by omega
 have n2 : ¬ g = g + 1 + 1 := by omega
 constructor
 case bw => exact h.bw.setCell (p := ⟨g, 3, none⟩) hg _
 case sz => have := h.sz; simpa using this
 case fa => intro j; simpa [go_sem] using h.fa j
 case fr => intro j; simpa [go_sem] using h.fr j
 all_goals simp [go_sem, h.a0, h.a1, h.a2, h.a3, h.y0, h.y1, h.y2, h.y3, h.r0, h.r1, h.r2, h.r3, n1, n2]
def IsAgg (a b c d : Int) (w : World) (e : Ending) (w' : World) : Prop := e = .returned (aggU a b c d) ∧ Below w.heap.size w w'
theorem refSub_any (a0 a1 a2 a3 b0 b1 b2 b3 : Int) (w : World) : Calls Tryz.prog 160 #[aggU a0 a1 a2 a3, aggU b0 b1 b2 b3] w (IsAgg (fU a0 b0) (fU a1 b1) (fU a2 b2) (fU a3 b3) w) := by
 have H0 := Lib.hid (sta_start w a0 a1 a2 a3 b0 b1 b2 b3)
 go_enter Tryz.func160, Tryz.ntmps160
 go_wp2_with fail
 go_loopw [5] (fun i wr => ∃ (k : Nat) (c0 c1 c2 c3 : Int), i = .int .i64 k ∧ k ≤ 4 ∧ Hid (Sta w wr w.heap.size c0 c1 c2 c3 b0 b1 b2 b3) ∧ Hid (c0 = (if 0 < k then fU a0 b0 else a0) ∧ c1 = (if 1 < k then fU a1 b1 else a1) ∧ c2 = (if 2 < k then fU a2 b2 else a2) ∧ c3 = (if 3 < k then fU a3 b3 else a3))) (fun i _ => 4 - (intOf i).toNat)
 case atStart => exact ⟨0, a0, a1, a2, a3, rfl, by omega, H0, Lib.hid ⟨rfl, rfl, rfl, rfl⟩⟩
 case round =>
  obtain ⟨k, c0, c1, c2, c3, rfl, hk, h, hc⟩ := hrel
  have q0 := h.out.a0
  have q1 := h.out.a1
  have q2 := h.out.a2
  have q3 := h.out.a3
  have p0 := h.out.y0
  have p1 := h.out.y1
  have p2 := h.out.y2
  have p3 := h.out.y3
  have fz := h.out.fa
  clear H0
  rcases (show k = 0 ∨ k = 1 ∨ k = 2 ∨ k = 3 ∨ k = 4 by omega) with rfl | rfl | rfl | rfl | rfl
  ·have Hn := Lib.hid (h.out.put0 (Nat.le_refl _) (fU c0 b0))
   go_wp2_with fail
   go_region
   all_goals go_wp2_with fail
   all_goals go_roundw
   all_goals first
    | (case rel => exact ⟨1, fU c0 b0, c1, c2, c3, by go_num, by omega, Lib.hid (Hn.out.drawn _), Lib.hid (by
      obtain ⟨e0, e1, e2, e3⟩ := hc.out
      subst e0 e1 e2 e3
      exact ⟨rfl, rfl, rfl, rfl⟩)⟩)
    | (case measure => simp [intOf])
    | (simp [intOf]; done)
  ·have Hn := Lib.hid (h.out.put1 (Nat.le_refl _) (fU c1 b1))
   go_wp2_with fail
   go_region
   all_goals go_wp2_with fail
   all_goals go_roundw
   all_goals first
    | (case rel => exact ⟨2, c0, fU c1 b1, c2, c3, by go_num, by omega, Lib.hid (Hn.out.drawn _), Lib.hid (by
      obtain ⟨e0, e1, e2, e3⟩ := hc.out
      subst e0 e1 e2 e3
      exact ⟨rfl, rfl, rfl, rfl⟩)⟩)
    | (case measure => simp [intOf])
    | (simp [intOf]; done)
  ·have Hn := Lib.hid (h.out.put2 (Nat.le_refl _) (fU c2 b2))
   go_wp2_with fail
   go_region
   all_goals go_wp2_with fail
   all_goals go_roundw
   all_goals first
    | (case rel => exact ⟨3, c0, c1, fU c2 b2, c3, by go_num, by omega, Lib.hid (Hn.out.drawn _), Lib.hid (by
      obtain ⟨e0, e1, e2, e3⟩ := hc.out
      subst e0 e1 e2 e3
      exact ⟨rfl, rfl, rfl, rfl⟩)⟩)
    | (case measure => simp [intOf])
    | (simp [intOf]; done)
  ·have Hn := Lib.hid (h.out.put3 (Nat.le_refl _) (fU c3 b3))
   go_wp2_with fail
   go_region
   all_goals go_wp2_with fail
   all_goals go_roundw
   all_goals first
    | (case rel => exact ⟨4, c0, c1, c2, fU c3 b3, by go_num, by omega, Lib.hid (Hn.out.drawn _), Lib.hid (by
      obtain ⟨e0, e1, e2, e3⟩ := hc.out
      subst e0 e1 e2 e3
      exact ⟨rfl, rfl, rfl, rfl⟩)⟩)
    | (case measure => simp [intOf])
    | (simp [intOf]; done)
  ·have r0 := h.out.r0
   have r1 := h.out.r1
   have r2 := h.out.r2
   have r3 := h.out.r3
   have fr := h.out.fr
   have hne : ¬ w.heap.size + 1 + 1 = w.heap.size := by omega
   have hne' : ¬ w.heap.size = w.heap.size + 1 + 1 := by omega
   have HB := Lib.hid h.out.bw
   go_wp2_with fail
   obtain ⟨e0, e1, e2, e3⟩ := hc.out
   have HE := Lib.hid (And.intro e0 (And.intro e1 (And.intro e2 e3)))
   clear e0 e1 e2 e3
   refine bodyPost_ret (v := aggU c0 c1 c2 c3) (by simp [results, Tryz.results160, go_sem, q0, q1, q2, q3, r0, r1, r2, r3, fr, hne, hne']) rfl ⟨by rw [HE.out.1, HE.out.2.1, HE.out.2.2.1, HE.out.2.2.2]; rfl, ?_⟩
   exact (((HB.out.setCell (p := ⟨w.heap.size + 1 + 1, 0, none⟩) (by show w.heap.size ≤ w.heap.size + 1 + 1; omega) _).setCell (p := ⟨w.heap.size + 1 + 1, 1, none⟩) (by show w.heap.size ≤ w.heap.size + 1 + 1; omega) _).setCell (p := ⟨w.heap.size + 1 + 1, 2, none⟩) (by show w.heap.size ≤ w.heap.size + 1 + 1; omega) _).setCell (p := ⟨w.heap.size + 1 + 1, 3, none⟩) (by show w.heap.size ≤ w.heap.size + 1 + 1; omega) _
def insB (a0 a1 a2 a3 b0 b1 b2 b3 : Int) : Bool := (fU a0 b0 == 0) && ((fU a1 b1 == 0) && ((fU a2 b2 == 0) && (fU a3 b3 == 0)))
theorem eq_arr (d : Nat) (c0 c1 c2 c3 z0 z1 z2 z3 : Int) (W : World) : (Op.equalIn (d + 2) 216 (aggU c0 c1 c2 c3) (aggU z0 z1 z2 z3)).run Tryz.prog W = .ok ((c0 == z0) && ((c1 == z1) && ((c2 == z2) && (c3 == z3)))) W := by
 have hu := Tryz.underlying216
 have hs : ∀ W, (sizeOf 214).run Tryz.prog W = .ok 1 W := fun W => by kernel_rfl
 have ha : ∀ W, (isAgg 214).run Tryz.prog W = .ok false W := fun W => by kernel_rfl
 have he : ∀ (W : World) (a b : Int), (Op.equalIn (d + 1) 214 (.int .u64 a) (.int .u64 b)).run Tryz.prog W = .ok (a == b) W := fun W a b => run_equalIn_int W d _ .u64 .u64 a b Tryz.underlying214
 have hp : ∀ (W : World) (a b c e : Int) (i : Nat) (v : Value), #[Value.int .u64 a, .int .u64 b, .int .u64 c, .int .u64 e][i]? = some v → (part 214 #[.int .u64 a, .int .u64 b, .int .u64 c, .int .u64 e] i).run Tryz.prog W = .ok v W := fun W a b c e i v h => by
  simp [part, ha, h]
 rw [show d + 2 = (d + 1) + 1 from rfl]
 simp only [Op.equalIn, Sem.run_bind, run_underlying hu, Result.andThen_ok, hs, Std.Legacy.Range.forIn_eq_forIn_range', Std.Legacy.Range.size, Nat.sub_zero, Nat.add_one_sub_one, Nat.div_one]
 simp only [show List.range' 0 4 1 = [0, 1, 2, 3] from rfl, List.forIn_cons, List.forIn_nil, Sem.run_bind, Nat.mul_one]
 cases h0 : (c0 == z0) <;> cases h1 : (c1 == z1) <;> cases h2 : (c2 == z2) <;> cases h3 : (c3 == z3)
 all_goals simp [hp _ _ _ _ _ 0 _ rfl, hp _ _ _ _ _ 1 _ rfl, hp _ _ _ _ _ 2 _ rfl, hp _ _ _ _ _ 3 _ rfl, he, h0, h1, h2, h3]
theorem eq_run (c0 c1 c2 c3 z0 z1 z2 z3 : Int) (W : World) : (binOp .eql 216 (aggU c0 c1 c2 c3) (aggU z0 z1 z2 z3)).run Tryz.prog W = .ok (.bool ((c0 == z0) && ((c1 == z1) && ((c2 == z2) && (c3 == z3))))) W := by
 rw [run_eql_struct, eq_arr 9998]
 rfl
theorem eq_guard : Tryz.prog.eqGuardType Tryz.prog.depth 216 = false := by kernel_rfl
theorem refInside_any (a0 a1 a2 a3 b0 b1 b2 b3 : Int) (w : World) : Calls Tryz.prog 131 #[aggU a0 a1 a2 a3, aggU b0 b1 b2 b3] w fun e w' => e = .returned (.bool (insB a0 a1 a2 a3 b0 b1 b2 b3)) ∧ Below w.heap.size w w' := by
 have he : Hid (insB a0 a1 a2 a3 b0 b1 b2 b3 = ((fU a0 b0 == 0) && ((fU a1 b1 == 0) && ((fU a2 b2 == 0) && (fU a3 b3 == 0))))) := rfl
 go_enter Tryz.func131, Tryz.ntmps131
 go_wp2_with fail
 refine (refSub_any a0 a1 a2 a3 b0 b1 b2 b3 _).mono ?_
 rintro e w4 ⟨rfl, hb⟩
 have HB : Hid (Below w.heap.size w w4) := Lib.hid ((((Below.refl _ _).alloc (Nat.le_refl _) _).alloc (by simp) _).trans (hb.mono (by simp; omega)))
 clear hb
 generalize fU a0 b0 = c0 at *
 generalize fU a1 b1 = c1 at *
 generalize fU a2 b2 = c2 at *
 generalize fU a3 b3 = c3 at *
 have hq := eq_run c0 c1 c2 c3 0 0 0 0
 have hg := eq_guard
 go_wp2_with fail
 go_ret
 exact ⟨by rw [he.out]; rfl, HB.out⟩
end Go.Proofs.YtobmjnmcjddhcaaGreat
