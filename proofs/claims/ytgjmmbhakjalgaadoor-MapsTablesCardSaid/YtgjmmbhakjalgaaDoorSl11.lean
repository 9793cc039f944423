/-
  Sets of slots: each slot as much greater, by the program.
-/
import Derived.Test.YtgjmmbhakjalgaaDoorSl10
import Derived.Deep.RegionHeld
namespace Go.Proofs.YtgjmmbhakjalgaaDoor
open Go.RowKit Go.Shelf
set_option linter.unusedSimpArgs false
set_option linter.unusedVariables false
attribute [local go_sem] Oper.semAt_some
theorem keeps_below {W W' : World} (h : Below W.heap.size W W') : KeepsOthers W W' := ⟨h.size, fun k o hk _ => (h.block k (Array.getElem?_eq_some_iff.1 hk).1).trans hk⟩
def moveW (by_ : Int) (pre : List Int) : W4 := foldW zW (pre.map fun x => wrap64 (x + by_))
theorem moveW_snoc (by_ : Int) (pre : List Int) (x : Int) : moveW by_ (pre ++ [x]) = withM (moveW by_ pre) (wrap64 (x + by_)) := by
  unfold moveW foldW
  rw [List.map_append, List.foldl_append]
  rfl
theorem foldW_ok : ∀ (xs : List Int) (s : W4), s.Ok → (foldW s xs).Ok
  | [], s, h => h
  | x :: xs, s, h => foldW_ok xs (withM s x) (withM_ok h x)
theorem moveW_ok (by_ : Int) (pre : List Int) : (moveW by_ pre).Ok := foldW_ok _ _ zW_ok
/-- Between two rounds: what is added, the result (nothing), and the set so far. -/
structure MvS (g : Nat) (b : Int) (W : World) (t : W4) : Prop where
  by_ : W.cell? ⟨g + 1, 0, none⟩ = some (.int .i64 b)
  r : ∀ q, q < 4 → W.cell? ⟨g + 1 + 1, q, none⟩ = some (.int .u64 0)
  rf : ∀ q, q < 4 → W.frozen? ⟨g + 1 + 1, q, none⟩ = false
  o : ∀ q, q < 4 → W.cell? ⟨g + 1 + 1 + 1, q, none⟩ = some (.int .u64 (t.get q : Int))
  of_ : ∀ q, q < 4 → W.frozen? ⟨g + 1 + 1 + 1, q, none⟩ = false
theorem MvS.call {g : Nat} {b : Int} {W W' : World} {t : W4} (h : MvS g b W t) (hb : Below W.heap.size W W') : MvS g b W' t := by
  have l1 : g + 1 < W.heap.size := World.block_lt_of_cell? _ _ h.by_
  have l2 : g + 1 + 1 < W.heap.size := World.block_lt_of_cell? _ _ (h.r 0 (by omega))
  have l3 : g + 1 + 1 + 1 < W.heap.size := World.block_lt_of_cell? _ _ (h.o 0 (by omega))
  exact ⟨(hb.cell l1).trans h.by_, fun q hq => (hb.cell (p := ⟨g + 1 + 1, q, none⟩) l2).trans (h.r q hq), fun q hq => (hb.frozen (p := ⟨g + 1 + 1, q, none⟩) l2).trans (h.rf q hq), fun q hq => (hb.cell (p := ⟨g + 1 + 1 + 1, q, none⟩) l3).trans (h.o q hq), fun q hq => (hb.frozen (p := ⟨g + 1 + 1 + 1, q, none⟩) l3).trans (h.of_ q hq)⟩
abbrev put4 (W : World) (g : Nat) (t : W4) : World := (((W.setCell ⟨g, 0, none⟩ (.int .u64 (t.a0 : Int))).setCell ⟨g, 1, none⟩ (.int .u64 (t.a1 : Int))).setCell ⟨g, 2, none⟩ (.int .u64 (t.a2 : Int))).setCell ⟨g, 3, none⟩ (.int .u64 (t.a3 : Int))
theorem put4_far (W : World) (g : Nat) (t : W4) (p : Addr) (h : p.block ≠ g) : (put4 W g t).cell? p = W.cell? p := by
  unfold put4
  rw [World.cell?_setCell_far _ _ _ _ (Ne.symm h), World.cell?_setCell_far _ _ _ _ (Ne.symm h), World.cell?_setCell_far _ _ _ _ (Ne.symm h), World.cell?_setCell_far _ _ _ _ (Ne.symm h)]
theorem put4_frozen (W : World) (g : Nat) (t : W4) (p : Addr) : (put4 W g t).frozen? p = W.frozen? p := by
  unfold put4
  simp only [World.frozen?_setCell]
theorem MvS.put {g : Nat} {b : Int} {W : World} {t : W4} (h : MvS g b W t) (t' : W4) : MvS g b (put4 W (g + 1 + 1 + 1) t') t' := by
  have o0 := h.o 0 (by omega)
  have o1 := h.o 1 (by omega)
  have o2 := h.o 2 (by omega)
  have o3 := h.o 3 (by omega)
  refine ⟨(put4_far _ _ _ _ (by show g + 1 ≠ _; omega)).trans h.by_, fun q hq => (put4_far _ _ _ _ (by show g + 1 + 1 ≠ _; omega)).trans (h.r q hq), fun q hq => (put4_frozen _ _ _ _).trans (h.rf q hq), fun q hq => ?_, fun q hq => (put4_frozen _ _ _ _).trans (h.of_ q hq)⟩
  rcases (show q = 0 ∨ q = 1 ∨ q = 2 ∨ q = 3 by omega) with rfl | rfl | rfl | rfl <;> simp [put4, go_sem, o0, o1, o2, o3, W4.get]
theorem below4 {B g : Nat} {w W : World} (h : Below B w W) (hg : B ≤ g) (t : W4) : Below B w (put4 W g t) :=
  (((h.setCell (p := ⟨g, 0, none⟩) hg _).setCell (p := ⟨g, 1, none⟩) hg _).setCell (p := ⟨g, 2, none⟩) hg _).setCell (p := ⟨g, 3, none⟩) hg _
theorem keeps4 (W : World) (g : Nat) (t : W4) : KeepsOthers W (put4 W g t) :=
  (((KeepsOthers.setCell _ _ _).trans (KeepsOthers.setCell _ _ _)).trans (KeepsOthers.setCell _ _ _)).trans (KeepsOthers.setCell _ _ _)
set_option maxRecDepth 100000 in
set_option maxHeartbeats 4000000 in
theorem move_in (s : W4) (hok : s.Ok) (b : Int) (h0 : ¬ b < -256) (h1 : ¬ 256 < b) (w : World) (hT : Tab w) (hw0 : 0 < w.heap.size) : Calls Tryd.prog 14 #[aggW s, .int .i64 b] w (IsW (moveW b (listM s)) w) := by
  refine (callsIn_wide (n := 5)).1 ?_
  refine callsIn_of_wp_marks Tryd.func14 rfl trivial ?_ rfl
  simp only [Tryd.ntmps14, List.size_toArray, List.length_cons, List.length_nil, Nat.reduceAdd, Nat.reduceSub, Array.replicate_succ, Array.replicate_zero, List.push_toArray, List.append_toArray, List.nil_append, List.cons_append]
  gi_wp2_with (refine ⟨trivial, ?_⟩; gi_at_call 24; refine (callsIn_wide.2 (all_any s _)).mono ?_; rintro e w' ⟨rfl, rfl⟩)
  obtain ⟨W0, hW⟩ : ∃ W0, ((((w.alloc (.cells #[.int .u64 (s.a0 : Int), .int .u64 (s.a1 : Int), .int .u64 (s.a2 : Int), .int .u64 (s.a3 : Int)] 27)).alloc (.cells #[.int .i64 b] 3)).alloc (.cells #[.int .u64 0, .int .u64 0, .int .u64 0, .int .u64 0] 27)).alloc (.cells #[.int .u64 0, .int .u64 0, .int .u64 0, .int .u64 0] 27)).alloc (.cells #[.int .u64 (s.a0 : Int), .int .u64 (s.a1 : Int), .int .u64 (s.a2 : Int), .int .u64 (s.a3 : Int)] 27) = W0 := ⟨_, rfl⟩
  rw [hW]
  have hsz : W0.heap.size = w.heap.size + 1 + 1 + 1 + 1 + 1 := by rw [← hW]; simp
  have hB0 : Below w.heap.size w W0 := by rw [← hW]; exact (((((Below.refl _ _).alloc (Nat.le_refl _) _).alloc (by simp) _).alloc (by simp; omega) _).alloc (by simp; omega) _).alloc (by simp; omega) _
  have hM0 : MvS w.heap.size b W0 (moveW b []) := by
    rw [← hW]
    constructor
    case o =>
      intro q hq
      rcases (show q = 0 ∨ q = 1 ∨ q = 2 ∨ q = 3 by omega) with rfl | rfl | rfl | rfl <;> simp [go_sem, moveW, foldW, zW, W4.get]
    case r =>
      intro q hq
      rcases (show q = 0 ∨ q = 1 ∨ q = 2 ∨ q = 3 by omega) with rfl | rfl | rfl | rfl <;> simp [go_sem]
    all_goals (try intro q hq)
    all_goals simp [go_sem]
  have hC0 : ∀ q, q < 4 → W0.cell? ⟨w.heap.size + 1 + 1 + 1 + 1, q, none⟩ = some (.int .u64 (s.get q : Int)) := by
    rw [← hW]
    intro q hq
    rcases (show q = 0 ∨ q = 1 ∨ q = 2 ∨ q = 3 by omega) with rfl | rfl | rfl | rfl <;> simp [go_sem, W4.get]
  clear hW
  refine wpIn_rangeFunc_ownF rfl (by omega) (gf := 30) (lb := #[.pointer (some ⟨w.heap.size + 1 + 1 + 1 + 1, 0, none⟩)]) rfl trivial (enters_of Tryd.func30 (by kernel_rfl) rfl)
    (all_stops _ (by omega) (w.heap.size + 1 + 1 + 1 + 1) w.heap.size s hok hw0 W0 (by omega) (by omega) (hT.below hB0 hw0) hC0) belowK_t (belowK_b (by omega)) (Below.refl _ _) (fun _ => rfl)
    (fun pre W => MvS w.heap.size b W (moveW b pre) ∧ Below w.heap.size w W)
    (fun _ _ _ => False)
    (OwnFrom.and (Own.from (fun s A B row hs hg hr => ⟨cell_kept hs.by_ hg hr, fun q hq => cell_kept (hs.r q hq) hg hr, fun q hq => (frozen_kept (hs.r q hq) hg hr).trans (hs.rf q hq), fun q hq => cell_kept (hs.o q hq) hg hr, fun q hq => (frozen_kept (hs.o q hq) hg hr).trans (hs.of_ q hq)⟩) _) (ownFrom_below (Nat.le_refl _) (by omega)))
    (fun _ _ _ _ _ hs _ _ => hs)
    ⟨hM0, hB0⟩
    (fun x => { tmps := #[aggW s, .int .i64 b, .pointer (some ⟨w.heap.size, 0, none⟩), .pointer (some ⟨w.heap.size + 1, 0, none⟩), .pointer (some ⟨w.heap.size + 1 + 1, 0, none⟩), .pointer (some ⟨w.heap.size + 1 + 1 + 1, 0, none⟩), .int .i64 x, .int .i64 b, .bool false, .bool false, .int .i64 b, .bool false, .bool false, undef, .agg #[.int .u64 (s.a0 : Int), .int .u64 (s.a1 : Int), .int .u64 (s.a2 : Int), .int .u64 (s.a3 : Int)], .func (.func 30) #[] #[.pointer (some ⟨w.heap.size + 1 + 1 + 1 + 1, 0, none⟩)], .int .i64 x, undef, undef, undef, undef, undef, undef], defers := [] }) ?assign ?body ?done ?stop
  case assign =>
    intro l x W K hK
    gi_wp2
    exact hK
  case body =>
    rintro l pre x W ⟨hM, hB⟩ _
    have o0 : W.cell? ⟨w.heap.size + 1 + 1 + 1, 0, none⟩ = some (.int .u64 ((moveW b pre).a0 : Int)) := hM.o 0 (by omega)
    have o1 : W.cell? ⟨w.heap.size + 1 + 1 + 1, 1, none⟩ = some (.int .u64 ((moveW b pre).a1 : Int)) := hM.o 1 (by omega)
    have o2 : W.cell? ⟨w.heap.size + 1 + 1 + 1, 2, none⟩ = some (.int .u64 ((moveW b pre).a2 : Int)) := hM.o 2 (by omega)
    have o3 : W.cell? ⟨w.heap.size + 1 + 1 + 1, 3, none⟩ = some (.int .u64 ((moveW b pre).a3 : Int)) := hM.o 3 (by omega)
    have hby := hM.by_
    have hsnoc := moveW_snoc b pre x
    have cw := fun W => with_any (moveW b pre) (moveW_ok b pre) (wrap64 (x + b)) W
    generalize moveW b pre = t at *
    generalize withM t (wrap64 (x + b)) = t' at *
    gi_wp2_with (refine ⟨trivial, ?_⟩; gi_at_call 23; refine (CallsIn.inRound l (callsIn_wide.2 (cw _))).mono ?_; rintro e w1 ⟨rfl, hb1⟩; have hM1 := hM.call hb1; have p0 : w1.cell? ⟨w.heap.size + 1 + 1 + 1, 0, none⟩ = some (.int .u64 (t.a0 : Int)) := hM1.o 0 (by omega); have p1 : w1.cell? ⟨w.heap.size + 1 + 1 + 1, 1, none⟩ = some (.int .u64 (t.a1 : Int)) := hM1.o 1 (by omega); have p2 : w1.cell? ⟨w.heap.size + 1 + 1 + 1, 2, none⟩ = some (.int .u64 (t.a2 : Int)) := hM1.o 2 (by omega); have p3 : w1.cell? ⟨w.heap.size + 1 + 1 + 1, 3, none⟩ = some (.int .u64 (t.a3 : Int)) := hM1.o 3 (by omega); have f0 := hM1.of_ 0 (by omega); have f1 := hM1.of_ 1 (by omega); have f2 := hM1.of_ 2 (by omega); have f3 := hM1.of_ 3 (by omega))
    refine ⟨(keeps_below hb1).trans (keeps4 _ _ _), ?_, ?_, ?_⟩
    · exact below4 (hb1.mono hB.size) (by omega) _
    · rw [hsnoc]
      exact hM1.put _
    · exact below4 (bl_trans hB hB.size hb1) (by omega) _
  case done =>
    rintro D ys W hD rfl ⟨hM, hB⟩ hK
    have hMf := hM
    obtain ⟨t, ht⟩ : ∃ t, moveW b (listM s) = t := ⟨_, rfl⟩
    rw [ht] at hM
    have o0 : W.cell? ⟨w.heap.size + 1 + 1 + 1, 0, none⟩ = some (.int .u64 (t.a0 : Int)) := hM.o 0 (by omega)
    have o1 : W.cell? ⟨w.heap.size + 1 + 1 + 1, 1, none⟩ = some (.int .u64 (t.a1 : Int)) := hM.o 1 (by omega)
    have o2 : W.cell? ⟨w.heap.size + 1 + 1 + 1, 2, none⟩ = some (.int .u64 (t.a2 : Int)) := hM.o 2 (by omega)
    have o3 : W.cell? ⟨w.heap.size + 1 + 1 + 1, 3, none⟩ = some (.int .u64 (t.a3 : Int)) := hM.o 3 (by omega)
    have r0 := hM.r 0 (by omega)
    have r1 := hM.r 1 (by omega)
    have r2 := hM.r 2 (by omega)
    have r3 := hM.r 3 (by omega)
    have f0 := hM.rf 0 (by omega)
    have f1 := hM.rf 1 (by omega)
    have f2 := hM.rf 2 (by omega)
    have f3 := hM.rf 3 (by omega)
    gi_wp2
    have hK' := (keeps4 W (w.heap.size + 1 + 1) t).same D _ hK rfl
    refine ⟨by simp, .inl ⟨_, _, rfl, run_takeDeferred hK', ?_⟩⟩
    have q0 : (put4 W (w.heap.size + 1 + 1) t).cell? ⟨w.heap.size + 1 + 1, 0, none⟩ = some (.int .u64 (t.a0 : Int)) := by simp [put4, go_sem, r0, r1, r2, r3]
    have q1 : (put4 W (w.heap.size + 1 + 1) t).cell? ⟨w.heap.size + 1 + 1, 1, none⟩ = some (.int .u64 (t.a1 : Int)) := by simp [put4, go_sem, r0, r1, r2, r3]
    have q2 : (put4 W (w.heap.size + 1 + 1) t).cell? ⟨w.heap.size + 1 + 1, 2, none⟩ = some (.int .u64 (t.a2 : Int)) := by simp [put4, go_sem, r0, r1, r2, r3]
    have q3 : (put4 W (w.heap.size + 1 + 1) t).cell? ⟨w.heap.size + 1 + 1, 3, none⟩ = some (.int .u64 (t.a3 : Int)) := by simp [put4, go_sem, r0, r1, r2, r3]
    have c0 := cell_kept q0 (grownBy_putObj' _ D (.deferred none)) (fun r e => by cases e; exact ⟨_, hK', rfl⟩)
    have c1 := cell_kept q1 (grownBy_putObj' _ D (.deferred none)) (fun r e => by cases e; exact ⟨_, hK', rfl⟩)
    have c2 := cell_kept q2 (grownBy_putObj' _ D (.deferred none)) (fun r e => by cases e; exact ⟨_, hK', rfl⟩)
    have c3 := cell_kept q3 (grownBy_putObj' _ D (.deferred none)) (fun r e => by cases e; exact ⟨_, hK', rfl⟩)
    refine ⟨aggW t, ?_, by rw [ht], (below4 hB (by omega) t).trans (belowK_b (w := w) (Nat.le_refl _) _ D _ _ (by omega) hK' rfl rfl)⟩
    simp [results, Tryd.f14, go_sem, c0, c1, c2, c3]
  case stop =>
    rintro D c pre W _ _ h _
    exact h.elim
set_option maxRecDepth 100000 in
theorem move_out (s : W4) (b : Int) (h : b < -256 ∨ 256 < b) (w : World) : Calls Tryd.prog 14 #[aggW s, .int .i64 b] w (IsW zW w) := by
  by_cases h0 : b < -256
  · go_enter Tryd.func14, Tryd.ntmps14
    go_wp2_with fail
    exact bodyPost_ret (v := aggW zW) (by simp [results, Tryd.results14, go_sem, zW]) rfl ⟨rfl, by repeat (first | exact Below.refl _ _ | (refine Below.setCell ?_ (by simp; try omega) _) | (refine Below.alloc ?_ (by simp; try omega) _))⟩
  · have h1 : 256 < b := by omega
    go_enter Tryd.func14, Tryd.ntmps14
    go_wp2_with fail
    exact bodyPost_ret (v := aggW zW) (by simp [results, Tryd.results14, go_sem, zW]) rfl ⟨rfl, by repeat (first | exact Below.refl _ _ | (refine Below.setCell ?_ (by simp; try omega) _) | (refine Below.alloc ?_ (by simp; try omega) _))⟩
/-- Each slot as much greater. -/
def movedM (s : W4) (b : Int) : W4 := if b < -256 ∨ 256 < b then zW else foldW zW ((listM s).map fun x => x + b)
theorem listM_bound (s : W4) {x : Int} (h : x ∈ listM s) : 0 ≤ x ∧ x < 256 := by
  unfold listM listK at h
  obtain ⟨m, hm, rfl⟩ := List.mem_map.1 h
  have := (List.mem_filter.1 hm).1
  simp at this
  omega
theorem move_any (s : W4) (hok : s.Ok) (b : Int) (w : World) (hT : Tab w) (hw0 : 0 < w.heap.size) : Calls Tryd.prog 14 #[aggW s, .int .i64 b] w (IsW (movedM s b) w) := by
  unfold movedM
  by_cases h : b < -256 ∨ 256 < b
  · rw [if_pos h]
    exact move_out s b h w
  · rw [if_neg h]
    have e : foldW zW ((listM s).map fun x => x + b) = moveW b (listM s) := by
      unfold moveW
      congr 1
      apply List.map_congr_left
      intro x hx
      have := listM_bound s hx
      unfold wrap64
      omega
    rw [e]
    exact move_in s hok b (by omega) (by omega) w hT hw0
end Go.Proofs.YtgjmmbhakjalgaaDoor
