/-
  Rows of sites: which comes first, whether they stand in order; the program's and the document's.
-/
import Derived.Test.YtnfoahcdmaphnaaOs1
import Derived.Test.YtnfoahcdmaphnaaGsS
import Derived.BigQuiet
import Derived.Test.YtnfoahcdmaphnaaHeld
import Derived.OrdersHeld
namespace Go.Proofs.Ytnfoahcdmaphnaa
open Go.RowKit
set_option linter.unusedSimpArgs false
set_option linter.unusedVariables false
def cellsS (x : DSite) : List Value := [.int .i64 x.fn, .int .i64 x.pc]
abbrev SlS (w : World) (B : Nat) (A : Option Addr) (n c : Nat) (xs : List DSite) : Prop := SlR 2 16 (RC cellsS) w B A n c xs
theorem sls_of {w : World} {B : Nat} {A : Option Addr} {n c : Nat} {xs : List DSite} (h : SlR 2 16 RSite w B A n c xs) : SlS w B A n c xs := h.imp fun cs x _ hr => hr.1
theorem SlS.get {w : World} {A : Option Addr} {n c : Nat} {xs : List DSite} (h : SlS w w.heap.size A n c xs) {k : Nat} (hk : k < n) : ∃ b off x, A = some ⟨b, off, none⟩ ∧ b < w.heap.size ∧ xs[k]? = some x ∧ ∀ W, Below w.heap.size w W → W.cell? ⟨b, off + k * 2, none⟩ = some (.int .i64 x.fn) ∧ W.cell? ⟨b, off + k * 2 + 1, none⟩ = some (.int .i64 x.pc) := by
  obtain ⟨b, off, x, cs, hA, hb, hx, _, hc, hr⟩ := SlR.at_ h hk
  unfold RC at hr
  subst hr
  have h0 : w.cell? ⟨b, off + k * 2, none⟩ = some (.int .i64 x.fn) := by simpa using hc 0 _ rfl
  have h1 : w.cell? ⟨b, off + k * 2 + 1, none⟩ = some (.int .i64 x.pc) := by simpa [Nat.add_assoc] using hc 1 _ rfl
  exact ⟨b, off, x, hA, hb, hx, fun W hW => ⟨(hW.cell hb).trans h0, (hW.cell hb).trans h1⟩⟩
theorem SlS.on {w w' : World} {A : Option Addr} {n c : Nat} {xs : List DSite} (h : SlS w w.heap.size A n c xs) (hb : Below w.heap.size w w') : SlS w' w'.heap.size A n c xs := (SlR.keep (stable_rc _) h fun p hp => hb.cell hp).more hb.size
def cmpS (x y : DSite) : Int := orM (cmpM x.fn y.fn) (cmpM x.pc y.pc)
theorem cmpS_lt (x y : DSite) : cmpS x y < 0 ↔ ¬ (y.fn < x.fn ∨ (y.fn = x.fn ∧ y.pc ≤ x.pc)) := by
  unfold cmpS orM cmpM
  split <;> split <;> (try split) <;> (try split) <;> (try split) <;> omega
def Srt (xs : List DSite) (k : Nat) : Prop := ∀ (i : Nat) x y, i + 1 < k → xs[i]? = some x → xs[i + 1]? = some y → cmpS x y < 0
theorem Srt.one (xs : List DSite) {k : Nat} (h : k ≤ 1) : Srt xs k := fun i x y hi => by omega
theorem Srt.step {xs : List DSite} {k : Nat} {x y : DSite} (h : Srt xs (k + 1)) (hx : xs[k]? = some x) (hy : xs[k + 1]? = some y) (hc : cmpS x y < 0) : Srt xs (k + 1 + 1) := fun i x' y' hi hx' hy' => by
  by_cases e : i = k
  · subst e
    rw [hx] at hx'
    rw [hy] at hy'
    injection hx' with hx'
    injection hy' with hy'
    rw [← hx', ← hy']
    exact hc
  · exact h i x' y' (by omega) hx' hy'
theorem Srt.not {xs : List DSite} {n k : Nat} {x y : DSite} (hk : k + 1 < n) (hx : xs[k]? = some x) (hy : xs[k + 1]? = some y) (hc : ¬ cmpS x y < 0) : ¬ Srt xs n := fun h => hc (h k x y hk hx hy)
def IsSrt (xs : List DSite) (n : Nat) (w : World) (e : Ending) (w' : World) : Prop := ∃ r : Bool, e = .returned (.bool r) ∧ (r = true ↔ Srt xs n) ∧ Below w.heap.size w w'
set_option maxRecDepth 100000 in
set_option maxHeartbeats 4000000 in
theorem compare_any (a0 a1 b0 b1 : Int) (w : World) : Calls Try.prog 23 #[.agg #[.int .i64 a0, .int .i64 a1], .agg #[.int .i64 b0, .int .i64 b1]] w fun e w' => e = .returned (.int .i64 (cmpS ⟨a0, a1⟩ ⟨b0, b1⟩)) ∧ Below w.heap.size w w' := by
  obtain ⟨w1, hw1⟩ : ∃ X, w.alloc (.cells #[.int .i64 a0, .int .i64 a1] 46) = X := ⟨_, rfl⟩
  obtain ⟨g, hg⟩ : ∃ g, w.heap.size = g := ⟨_, rfl⟩
  have hs1 : w1.heap.size = g + 1 := by rw [← hw1, ← hg]; simp
  have x1 : Cells w1 g [.int .i64 a0, .int .i64 a1] := by rw [← hw1, ← hg]; exact Cells.new w [.int .i64 a0, .int .i64 a1] _
  have hb1 : Below w.heap.size w w1 := by rw [← hw1]; exact bl_one _
  obtain ⟨w2, hw2⟩ : ∃ X, w1.alloc (.cells #[.int .i64 b0, .int .i64 b1] 46) = X := ⟨_, rfl⟩
  have x2 : Cells w2 g [.int .i64 a0, .int .i64 a1] := by rw [← hw2]; exact x1.on (bl_one _)
  have y2 : Cells w2 (g + 1) [.int .i64 b0, .int .i64 b1] := by rw [← hw2, ← hs1]; exact Cells.new w1 [.int .i64 b0, .int .i64 b1] _
  have hb2 : Below w.heap.size w w2 := by rw [← hw2]; exact hb1.alloc hb1.size _
  have HB := Lib.hid hb2
  have EQ : Hid (∀ W, Kp (fun _ => False) w2 W → W.cell? ⟨g, 0, none⟩ = some (.int .i64 a0) ∧ W.cell? ⟨g, 1, none⟩ = some (.int .i64 a1) ∧ W.cell? ⟨g + 1, 0, none⟩ = some (.int .i64 b0) ∧ W.cell? ⟨g + 1, 1, none⟩ = some (.int .i64 b1)) := Lib.hid fun W hW => ⟨(x2.kp hW id).at_ 0 _ rfl, (x2.kp hW id).at_ 1 _ rfl, (y2.kp hW id).at_ 0 _ rfl, (y2.kp hW id).at_ 1 _ rfl⟩
  have hgs := hs1
  clear x1 x2 y2 hb1 hb2
  go_enter Try.func23, Try.ntmps23
  go_wp2_with fail

  clear hw1 hw2 hgs hs1
  obtain ⟨p, hp⟩ : ∃ p, cmpM a0 b0 = p := ⟨_, rfl⟩
  obtain ⟨q, hq⟩ : ∃ q, cmpM a1 b1 = q := ⟨_, rfl⟩
  have HV : Hid (cmpS ⟨a0, a1⟩ ⟨b0, b1⟩ = orM p q) := Lib.hid (by unfold cmpS; rw [hp, hq])
  have cP : ∀ W, Hid (Calls Try.prog 35 #[.int .i64 a0, .int .i64 b0] W fun e w' => e = .returned (.int .i64 p) ∧ W = w') := fun W => Lib.hid (by rw [← hp]; exact cmp_any a0 b0 W)
  have cQ : ∀ W, Hid (Calls Try.prog 35 #[.int .i64 a1, .int .i64 b1] W fun e w' => e = .returned (.int .i64 q) ∧ W = w') := fun W => Lib.hid (by rw [← hq]; exact cmp_any a1 b1 W)
  clear hp hq
  refine wp_region_held (S := fun W => Kp (fun _ => False) w2 W) (by kernel_rfl) ?_
  change wpAnyH _ _ _ _ _ _ _ _ (World.drew _)
  have hS0 : Kp (fun _ => False) w2 w2.drew := (Kp.refl _ _).drew

  refine wpAnyH_take (i := 0) (v := .pointer (some ⟨g, 0, none⟩)) rfl (by kernel_rfl) (by kernel_rfl) (by kernel_rfl) (fun _ _ _ h => h) (Or.inl ⟨by rfl, by intro W hW; go_simp; try (first | (with_reducible rfl) | omega)⟩) hS0 ?_
  refine wpAnyH_take (i := 2) (v := .pointer (some ⟨g + 1, 0, none⟩)) rfl (by kernel_rfl) (by kernel_rfl) (by kernel_rfl) (fun _ _ _ h => h) (Or.inl ⟨by rfl, by intro W hW; go_simp; try (first | (with_reducible rfl) | omega)⟩) hS0 ?_
  refine wpAnyH_take (i := 5) (v := .pointer (some ⟨g, 1, none⟩)) rfl (by kernel_rfl) (by kernel_rfl) (by kernel_rfl) (fun _ _ _ h => h) (Or.inl ⟨by rfl, by intro W hW; go_simp; try (first | (with_reducible rfl) | omega)⟩) hS0 ?_
  refine wpAnyH_take (i := 7) (v := .pointer (some ⟨g + 1, 1, none⟩)) rfl (by kernel_rfl) (by kernel_rfl) (by kernel_rfl) (fun _ _ _ h => h) (Or.inl ⟨by rfl, by intro W hW; go_simp; try (first | (with_reducible rfl) | omega)⟩) hS0 ?_
  refine wpAnyH_take (i := 1) (v := .int .i64 a0) rfl (by kernel_rfl) (by kernel_rfl) (by kernel_rfl) (fun _ _ _ h => h) (Or.inl ⟨by rfl, by intro W hW; obtain ⟨q0, q1, q2, q3⟩ := EQ.out W hW; go_simp; try (first | (with_reducible rfl) | omega)⟩) hS0 ?_
  refine wpAnyH_take (i := 3) (v := .int .i64 b0) rfl (by kernel_rfl) (by kernel_rfl) (by kernel_rfl) (fun _ _ _ h => h) (Or.inl ⟨by rfl, by intro W hW; obtain ⟨q0, q1, q2, q3⟩ := EQ.out W hW; go_simp; try (first | (with_reducible rfl) | omega)⟩) hS0 ?_
  refine wpAnyH_take (i := 6) (v := .int .i64 a1) rfl (by kernel_rfl) (by kernel_rfl) (by kernel_rfl) (fun _ _ _ h => h) (Or.inl ⟨by rfl, by intro W hW; obtain ⟨q0, q1, q2, q3⟩ := EQ.out W hW; go_simp; try (first | (with_reducible rfl) | omega)⟩) hS0 ?_
  refine wpAnyH_take (i := 8) (v := .int .i64 b1) rfl (by kernel_rfl) (by kernel_rfl) (by kernel_rfl) (fun _ _ _ h => h) (Or.inl ⟨by rfl, by intro W hW; obtain ⟨q0, q1, q2, q3⟩ := EQ.out W hW; go_simp; try (first | (with_reducible rfl) | omega)⟩) hS0 ?_
  refine wpAnyH_one (i := 4) (by kernel_rfl) rfl (fun K hK => ?_)
  go_simp
  refine (cP _).out.mono ?_
  rintro e w' ⟨rfl, rfl⟩
  go_simp
  refine hK _ _ ⟨hS0, ?_⟩; clear hK K
  refine wpAnyH_one (i := 9) (by kernel_rfl) rfl (fun K hK => ?_)
  go_simp
  refine (cQ _).out.mono ?_
  rintro e w' ⟨rfl, rfl⟩
  go_simp
  refine hK _ _ ⟨hS0, ?_⟩; clear hK K
  refine wpAnyH_one (i := 10) (by kernel_rfl) rfl (fun K hK => ?_)
  go_simp
  obtain ⟨w3, hw3⟩ : ∃ X, World.drew (World.alloc w2 (.cells #[.int .i64 p, .int .i64 q] 3)) = X := ⟨_, rfl⟩
  have HC3 : Cells w3 w2.heap.size [.int .i64 p, .int .i64 q] := by rw [← hw3]; exact (Cells.new w2 [.int .i64 p, .int .i64 q] _).kp ((Kp.refl (fun _ => False) _).drew) id
  have hS3 : Kp (fun _ => False) w2 w3 := by rw [← hw3]; exact ((Kp.refl _ _).alloc _).drew
  rw [hw3]
  refine hK _ _ ⟨hS3, ?_⟩; clear hK K
  refine wpAnyH_one (i := 11) (by kernel_rfl) rfl (fun K hK => ?_)
  go_simp
  refine (or_two w2.heap.size 2 p q w3 HC3).mono ?_
  rintro e w' ⟨rfl, rfl⟩
  go_simp
  refine hK _ _ ⟨hS3, ?_⟩; clear hK K
  refine wpAnyH_one (i := 12) (by kernel_rfl) rfl (fun K hK => ?_)
  go_simp
  refine hK _ _ ⟨hS3, ?_⟩; clear hK K
  refine wpAnyH_done (by kernel_rfl) ?_ _
  have HB3 : Hid (Below w.heap.size w w3) := Lib.hid (HB.out.trans (hS3.below HB.out.size fun _ h => h.elim))
  go_simp
  go_wp2_with fail
  go_ret
  exact ⟨by rw [HV.out]; rfl, HB3.out⟩

set_option maxRecDepth 100000 in
set_option maxHeartbeats 8000000 in
theorem sorted_any (A : Option Addr) (n c : Nat) (xs : List DSite) (w : World) (h : SlS w w.heap.size A n c xs) (hn : n ≤ 100) :
    Calls Try.prog 14 #[.slice A n c] w (IsSrt xs n w) := by
  have H := Lib.hid h
  clear h
  go_enter Try.func14, Try.ntmps14
  go_wp2_with fail
  go_loopw [3] (fun i wr => ∃ (k : Nat), i = .int .i64 ((k + 1 : Nat) : Int) ∧ (k + 1 ≤ n ∨ k = 0) ∧ Hid (Srt xs (k + 1)) ∧ Hid (Below w.heap.size w wr)) (fun i _ => n + 1 - (intOf i).toNat)
  case atStart => exact ⟨0, rfl, .inr rfl, Lib.hid (Srt.one xs (Nat.le_refl _)), Lib.hid (Below.refl _ _)⟩
  case round =>
    obtain ⟨k, rfl, hk, HR, HB⟩ := hrel
    by_cases hlt : k + 1 < n
    · obtain ⟨r, off, x, rfl, hr, hx, hcx⟩ := H.out.get (show k < n by omega)
      obtain ⟨r', off', y, e', hr', hy, hcy⟩ := H.out.get hlt
      injection e' with e'
      injection e' with e1 e2
      subst e1 e2
      have HX := Lib.hid hx
      have HY := Lib.hid hy
      obtain ⟨xf, xp⟩ := x
      obtain ⟨yf, yp⟩ := y
      have EQ : Hid (∀ W, Below wr.heap.size wr W → W.cell? ⟨r, off + k * 2, none⟩ = some (.int .i64 xf) ∧ W.cell? ⟨r, off + k * 2 + 1, none⟩ = some (.int .i64 xp) ∧ W.cell? ⟨r, off + (k + 1) * 2, none⟩ = some (.int .i64 yf) ∧ W.cell? ⟨r, off + (k + 1) * 2 + 1, none⟩ = some (.int .i64 yp)) := Lib.hid fun W hW => ⟨(hcx W (bl_trans HB.out HB.out.size hW)).1, (hcx W (bl_trans HB.out HB.out.size hW)).2, (hcy W (bl_trans HB.out HB.out.size hW)).1, (hcy W (bl_trans HB.out HB.out.size hW)).2⟩
      have hk0 : (0 : Int) ≤ (k : Int) := by omega
      have hk1 : ((k : Int) + 1) < (n : Int) := by omega
      have hk2 : (k : Int) < (n : Int) := by omega
      have hk3 : ((k : Int) + 1) ≤ 100 := by omega
      have hwk : IntKind.i64.wrap (k : Int) = (k : Int) := by simp [IntKind.wrap, IntKind.bits, IntKind.signed]; omega
      clear hx hy hcx hcy hr hr'

      go_wp2_with fail
      refine wp_region_held (S := fun W => Below wr.heap.size wr W) (by kernel_rfl) ?_
      change wpAnyH _ _ _ _ _ _ _ _ (World.drew _)
      have hS0 : Below wr.heap.size wr wr.drew := (Below.refl _ _).drew
      refine wpAnyH_take (i := 0) (v := .slice (some ⟨r, off, none⟩) n c) rfl (by kernel_rfl) (by kernel_rfl) (by kernel_rfl) (fun _ _ _ h => h) (Or.inl ⟨by rfl, by intro W hW; go_simp; try (first | (with_reducible rfl) | omega)⟩) hS0 ?_
      refine wpAnyH_take (i := 1) (v := .int .i64 ((k : Int) + 1)) rfl (by kernel_rfl) (by kernel_rfl) (by kernel_rfl) (fun _ _ _ h => h) (Or.inl ⟨by rfl, by intro W hW; go_simp; try (first | (with_reducible rfl) | omega)⟩) hS0 ?_
      refine wpAnyH_take (i := 2) (v := .int .i64 (k : Int)) rfl (by kernel_rfl) (by kernel_rfl) (by kernel_rfl) (fun _ _ _ h => h) (Or.inl ⟨by rfl, by intro W hW; go_simp; try (first | (with_reducible rfl) | omega)⟩) hS0 ?_
      refine wpAnyH_take (i := 3) (v := .pointer (some ⟨r, off + k * 2, none⟩)) rfl (by kernel_rfl) (by kernel_rfl) (by kernel_rfl) (fun _ _ _ h => h) (Or.inl ⟨by rfl, by intro W hW; go_simp; try (first | (with_reducible rfl) | omega)⟩) hS0 ?_
      refine wpAnyH_take (i := 4) (v := .agg #[.int .i64 xf, .int .i64 xp]) rfl (by kernel_rfl) (by kernel_rfl) (by kernel_rfl) (fun _ _ _ h => h) (Or.inl ⟨by rfl, by intro W hW; obtain ⟨q0, q1, q2, q3⟩ := EQ.out W hW; go_simp; try (first | (with_reducible rfl) | omega)⟩) hS0 ?_
      refine wpAnyH_take (i := 5) (v := .slice (some ⟨r, off, none⟩) n c) rfl (by kernel_rfl) (by kernel_rfl) (by kernel_rfl) (fun _ _ _ h => h) (Or.inl ⟨by rfl, by intro W hW; go_simp; try (first | (with_reducible rfl) | omega)⟩) hS0 ?_
      refine wpAnyH_take (i := 6) (v := .int .i64 ((k : Int) + 1)) rfl (by kernel_rfl) (by kernel_rfl) (by kernel_rfl) (fun _ _ _ h => h) (Or.inl ⟨by rfl, by intro W hW; go_simp; try (first | (with_reducible rfl) | omega)⟩) hS0 ?_
      refine wpAnyH_take (i := 7) (v := .pointer (some ⟨r, off + (k + 1) * 2, none⟩)) rfl (by kernel_rfl) (by kernel_rfl) (by kernel_rfl) (fun _ _ _ h => h) (Or.inl ⟨by rfl, by intro W hW; go_simp; try (first | (with_reducible rfl) | omega)⟩) hS0 ?_
      refine wpAnyH_take (i := 8) (v := .agg #[.int .i64 yf, .int .i64 yp]) rfl (by kernel_rfl) (by kernel_rfl) (by kernel_rfl) (fun _ _ _ h => h) (Or.inl ⟨by rfl, by intro W hW; obtain ⟨q0, q1, q2, q3⟩ := EQ.out W hW; go_simp; try (first | (with_reducible rfl) | omega)⟩) hS0 ?_
      obtain ⟨cv, hcv⟩ : ∃ v, cmpS ⟨xf, xp⟩ ⟨yf, yp⟩ = v := ⟨_, rfl⟩
      refine wpAnyH_one (i := 9) (by kernel_rfl) rfl (fun K hK => ?_)
      go_simp
      refine (compare_any xf xp yf yp _).mono ?_
      rintro e w4 ⟨rfl, hb4⟩
      have hS4 : Below wr.heap.size wr w4 := bl_trans hS0 hS0.size hb4
      rw [hcv]
      go_simp
      refine hK _ _ ⟨hS4, ?_⟩; clear hK K
      refine wpAnyH_one (i := 10) (by kernel_rfl) rfl (fun K hK => ?_)
      go_simp
      refine hK _ _ ⟨hS4, ?_⟩; clear hK K
      refine wpAnyH_done (by kernel_rfl) ?_ _
      have HB4 : Hid (Below w.heap.size w w4) := Lib.hid (bl_trans HB.out HB.out.size hS4)
      have HCV := Lib.hid hcv
      clear hS4 hb4 hS0 EQ hcv
      by_cases hc : cv < 0
      · have hc1 : decide (cv ≥ 0) = false := by simp; omega
        have hc2 : ¬ (0 : Int) ≤ cv := by omega
        go_simp
        go_wp2_with fail
        go_roundw
        case rel => exact ⟨k + 1, by go_num, by omega, Lib.hid (HR.out.step HX.out HY.out (by rw [HCV.out]; exact hc)), HB4⟩
        case measure => simp [intOf]; omega
      · have hc1 : decide (cv ≥ 0) = true := by simp; omega
        have hc2 : (0 : Int) ≤ cv := by omega
        go_simp
        go_wp2_with fail
        go_ret
        exact ⟨false, rfl, ⟨(fun h => by cases h), fun h => absurd h (Srt.not hlt HX.out HY.out (by rw [HCV.out]; omega))⟩, HB4.out⟩

    · have HS : Hid (Srt xs n) := Lib.hid (fun i x y hi hx hy => HR.out i x y (by omega) hx hy)
      have hk1 : ¬ ((k : Int) + 1) < (n : Int) := by omega
      go_wp2_with fail
      go_ret
      exact ⟨true, rfl, ⟨fun _ => HS.out, fun _ => rfl⟩, HB.out⟩

end Go.Proofs.Ytnfoahcdmaphnaa
