/-
  Panics: two chains that are alike; the walk of UnwindMerges.
-/
import Derived.Test.YtnnpgljmfjemnaaBlameJ3
import Derived.Test.YtnnpgljmfjemnaaUwNext
namespace Go.Proofs.Ytnnpgljmfjemnaa
open Go.RowKit
set_option linter.unusedSimpArgs false
set_option linter.unusedVariables false

set_option maxRecDepth 100000 in
set_option maxHeartbeats 2000000 in
theorem chains_any (B : Nat) (A1 A2 : Option Addr) (n c1 c2 : Nat) (xs : List DBlame) (w : World) (h1 : SlC w B A1 n c1 xs) (h2 : SlC w B A2 n c2 xs) (hB : B ≤ w.heap.size) (hn : n ≤ 100) :
    Calls Try.prog 18 #[.slice A1 n c1, .slice A2 n c2] w fun e w' => e = .returned (.bool true) ∧ Below w.heap.size w w' := by
  have H1 := Lib.hid h1
  have H2 := Lib.hid h2
  have HB := Lib.hid hB
  clear h1 h2 hB
  have hne : ((n : Int) != (n : Int)) = false := by simp
  go_enter Try.func18, Try.ntmps18
  go_wp2
  go_loopw [5] (fun i wr => ∃ k : Nat, k ≤ n ∧ i = .int .i64 k ∧ Below w.heap.size w wr) (fun i _ => n - (intOf i).toNat)
  case atStart => exact ⟨0, Nat.zero_le _, rfl, Below.refl _ _⟩
  case round =>
    obtain ⟨k, hk, rfl, hbw⟩ := hrel
    have HW := Lib.hid hbw
    clear hbw
    by_cases hlt : k < n
    · obtain ⟨b1, off1, x, A3, n3, c3, rfl, hb1, hx, p0, p1, p2, p3, s1, _, _⟩ := SlR.cell4 H1.out hlt
      obtain ⟨b2, off2, y, A4, n4, c4, rfl, hb2, hy, q0, q1, q2, q3, s2, _, _⟩ := SlR.cell4 H2.out hlt
      rw [hx] at hy
      injection hy with hy
      subst hy
      have hbr : ∀ W, Below wr.heap.size wr W → Below B w W := fun W hW => ((HW.out.trans (hW.mono HW.out.size))).mono HB.out
      have cs : ∀ W, Below wr.heap.size wr W → Hid (Calls Try.prog 29 #[blameV x.kind x.num x.reco A3 n3 c3, blameV x.kind x.num x.reco A4 n4 c4] W fun e w' => e = .returned (.bool true) ∧ Below W.heap.size W w') := fun W hW => by
        have := refSame_any x.kind x.num x.reco x.kind x.num x.reco B A3 A4 n3 c3 n4 c4 x.trace x.trace W (s1.keep (hbr W hW)) (s2.keep (hbr W hW)) (Nat.le_trans HB.out (Nat.le_trans HW.out.size hW.size))
        rw [show (eqH x.kind x.num x.reco x.kind x.num x.reco && eqEs x.trace x.trace) = true by simp [eqH, eqEs_refl]] at this
        exact this
      obtain ⟨x0, hx0⟩ : ∃ z, x.kind = z := ⟨_, rfl⟩
      obtain ⟨x1, hx1⟩ : ∃ z, x.num = z := ⟨_, rfl⟩
      obtain ⟨x2, hx2⟩ : ∃ z, x.reco = z := ⟨_, rfl⟩
      rw [hx0, hx1, hx2] at cs
      rw [hx0] at p0 q0
      rw [hx1] at p1 q1
      rw [hx2] at p2 q2
      have ea0 : ∀ W, Below wr.heap.size wr W → W.cell? ⟨b1, off1 + k * 4, none⟩ = some (.int .i64 x0) := fun W hW => ((hbr W hW).cell hb1).trans p0
      have ea1 : ∀ W, Below wr.heap.size wr W → W.cell? ⟨b1, off1 + k * 4 + 1, none⟩ = some (.int .i64 x1) := fun W hW => ((hbr W hW).cell hb1).trans p1
      have ea2 : ∀ W, Below wr.heap.size wr W → W.cell? ⟨b1, off1 + k * 4 + 2, none⟩ = some (.bool x2) := fun W hW => ((hbr W hW).cell hb1).trans p2
      have ea3 : ∀ W, Below wr.heap.size wr W → W.cell? ⟨b1, off1 + k * 4 + 3, none⟩ = some (.slice A3 n3 c3) := fun W hW => ((hbr W hW).cell hb1).trans p3
      have eb0 : ∀ W, Below wr.heap.size wr W → W.cell? ⟨b2, off2 + k * 4, none⟩ = some (.int .i64 x0) := fun W hW => ((hbr W hW).cell hb2).trans q0
      have eb1 : ∀ W, Below wr.heap.size wr W → W.cell? ⟨b2, off2 + k * 4 + 1, none⟩ = some (.int .i64 x1) := fun W hW => ((hbr W hW).cell hb2).trans q1
      have eb2 : ∀ W, Below wr.heap.size wr W → W.cell? ⟨b2, off2 + k * 4 + 2, none⟩ = some (.bool x2) := fun W hW => ((hbr W hW).cell hb2).trans q2
      have eb3 : ∀ W, Below wr.heap.size wr W → W.cell? ⟨b2, off2 + k * 4 + 3, none⟩ = some (.slice A4 n4 c4) := fun W hW => ((hbr W hW).cell hb2).trans q3
      have hS0 : Below wr.heap.size wr wr.drew := (Below.refl _ _).drew
      have hin : k < n := hlt
      clear hx s1 s2 hx0 hx1 hx2 p0 p1 p2 p3 q0 q1 q2 q3 hbr hb1 hb2
      go_wp2
      refine wp_region_held (S := fun W => Below wr.heap.size wr W) (by kernel_rfl) ?_
      change wpAnyH _ _ _ _ _ _ _ _ (World.drew _)
      refine wpAnyH_take (i := 0) (v := .slice (some ⟨b1, off1, none⟩) n c1) rfl (by kernel_rfl) (by kernel_rfl) (by kernel_rfl) (fun _ _ _ h => h) (Or.inl ⟨by rfl, by intro W hW; go_simp; try (with_reducible rfl)⟩) hS0 ?_
      refine wpAnyH_take (i := 1) (v := .int .i64 (k : Int)) rfl (by kernel_rfl) (by kernel_rfl) (by kernel_rfl) (fun _ _ _ h => h) (Or.inl ⟨by rfl, by intro W hW; go_simp; try (with_reducible rfl)⟩) hS0 ?_
      refine wpAnyH_take (i := 2) (v := .pointer (some ⟨b1, off1 + k * 4, none⟩)) rfl (by kernel_rfl) (by kernel_rfl) (by kernel_rfl) (fun _ _ _ h => h) (Or.inl ⟨by rfl, by intro W hW; go_simp; try (with_reducible rfl)⟩) hS0 ?_
      refine wpAnyH_take (i := 3) (v := blameV x0 x1 x2 A3 n3 c3) rfl (by kernel_rfl) (by kernel_rfl) (by kernel_rfl) (fun _ _ _ h => h) (Or.inl ⟨by rfl, by intro W hW; have a0 := ea0 W hW; have a1 := ea1 W hW; have a2 := ea2 W hW; have a3 := ea3 W hW; go_simp; try (with_reducible rfl)⟩) hS0 ?_
      refine wpAnyH_take (i := 4) (v := .slice (some ⟨b2, off2, none⟩) n c2) rfl (by kernel_rfl) (by kernel_rfl) (by kernel_rfl) (fun _ _ _ h => h) (Or.inl ⟨by rfl, by intro W hW; go_simp; try (with_reducible rfl)⟩) hS0 ?_
      refine wpAnyH_take (i := 5) (v := .int .i64 (k : Int)) rfl (by kernel_rfl) (by kernel_rfl) (by kernel_rfl) (fun _ _ _ h => h) (Or.inl ⟨by rfl, by intro W hW; go_simp; try (with_reducible rfl)⟩) hS0 ?_
      refine wpAnyH_take (i := 6) (v := .pointer (some ⟨b2, off2 + k * 4, none⟩)) rfl (by kernel_rfl) (by kernel_rfl) (by kernel_rfl) (fun _ _ _ h => h) (Or.inl ⟨by rfl, by intro W hW; go_simp; try (with_reducible rfl)⟩) hS0 ?_
      refine wpAnyH_take (i := 7) (v := blameV x0 x1 x2 A4 n4 c4) rfl (by kernel_rfl) (by kernel_rfl) (by kernel_rfl) (fun _ _ _ h => h) (Or.inl ⟨by rfl, by intro W hW; have a0 := eb0 W hW; have a1 := eb1 W hW; have a2 := eb2 W hW; have a3 := eb3 W hW; go_simp; try (with_reducible rfl)⟩) hS0 ?_
      refine wpAnyH_one (i := 8) (by kernel_rfl) rfl (fun K hK => ?_)
      go_simp
      refine Calls.mono (cs _ hS0).out ?_
      rintro e w6 ⟨rfl, hb6⟩
      have hS6 := bl_trans hS0 hS0.size hb6
      go_simp
      refine hK _ _ ⟨hS6, ?_⟩; clear hK K
      refine wpAnyH_one (i := 9) (by kernel_rfl) rfl (fun K hK => ?_)
      go_simp
      refine hK _ _ ⟨hS6, ?_⟩; clear hK K
      refine wpAnyH_done (by kernel_rfl) ?_ _
      have HS := Lib.hid hS6
      clear hS6 hS0 hb6 ea0 ea1 ea2 ea3 eb0 eb1 eb2 eb3 cs
      go_wp2
      go_roundw
      case rel => exact ⟨k + 1, by omega, by go_num, HW.out.trans (HS.out.mono HW.out.size)⟩
      case measure => simp [intOf]; omega
    · go_wp2
      go_ret
      exact ⟨rfl, HW.out⟩

set_option maxRecDepth 100000 in
set_option maxHeartbeats 2000000 in
theorem unwindMerges_few (A1 A2 : Option Addr) (n1 n2 c1 c2 : Nat) (xs ys : List DBlame) (w : World) (h1 : SlC w w.heap.size A1 n1 c1 xs) (h2 : SlC w w.heap.size A2 n2 c2 ys) (hn1 : n1 ≤ 40) (hn2 : n2 ≤ 40) :
    Calls Try.prog 4 #[.slice A1 n1 c1, .slice A2 n2 c2] w fun e w' => e = .returned (.bool true) ∧ Below w.heap.size w w' := by
  have hl : (xs ++ ys).length ≤ 100 := by rw [List.length_append, h1.1, h2.1]; omega
  have d1 : Hid (Calls Try.prog 24 #[.slice A1 n1 c1, .slice A2 n2 c2] w (IsJoin (xs ++ ys) w)) := join_any A1 A2 n1 n2 c1 c2 xs ys w h1 h2 hn1 hn2
  have d2 : ∀ W, Below w.heap.size w W → Hid (Calls Try.prog 20 #[.slice A1 n1 c1, .slice A2 n2 c2] W (IsJoin (xs ++ ys) W)) := fun W hW => refJoin_any A1 A2 n1 n2 c1 c2 xs ys W (slc_up (SlR.below stable_Blame h1 hW) hW.size) (slc_up (SlR.below stable_Blame h2 hW) hW.size) hn1 hn2
  have d3 : ∀ (W : World) (A3 A4 : Option Addr) (c3 c4 : Nat), SlC W W.heap.size A3 (xs ++ ys).length c3 (xs ++ ys) → SlC W W.heap.size A4 (xs ++ ys).length c4 (xs ++ ys) → Hid (Calls Try.prog 18 #[.slice A3 (xs ++ ys).length c3, .slice A4 (xs ++ ys).length c4] W fun e w' => e = .returned (.bool true) ∧ Below W.heap.size W w') := fun W A3 A4 c3 c4 a b => chains_any W.heap.size A3 A4 _ c3 c4 (xs ++ ys) W a b (Nat.le_refl _) hl
  have q1 : ¬ ((40 : Int) < (n1 : Int)) := by omega
  have q2 : ¬ ((40 : Int) < (n2 : Int)) := by omega
  obtain ⟨zs, hz⟩ : ∃ zs, xs ++ ys = zs := ⟨_, rfl⟩
  rw [hz] at d1 d2 d3
  clear h1 h2 hz hl
  go_enter Try.func4, Try.ntmps4
  go_wp2_with (first
    | (go_at_call 24; refine Calls.mono d1.out ?_; rintro e w1 ⟨A3, c3, rfl, s3, b1⟩)
    | (go_at_call 20; refine Calls.mono (d2 _ b1).out ?_; rintro e w2 ⟨A4, c4, rfl, s4, b2⟩)
    | (go_at_call 18; refine Calls.mono (d3 _ _ _ _ _ (slc_up (SlR.below stable_Blame s3 b2) b2.size) s4).out ?_; rintro e w3 ⟨rfl, b3⟩)
    | (go_at_call 15; refine (uw_lives _).mono ?_; rintro e w4 ⟨rfl, b4⟩)
    | go_in)
  go_ret
  exact ⟨rfl, bl_trans (bl_trans (bl_trans b1 b1.size b2) (Nat.le_trans b1.size b2.size) b3) (Nat.le_trans b1.size (Nat.le_trans b2.size b3.size)) b4⟩

theorem unwindMerges_law (A1 : Option Addr) (n1 c1 : Nat) (xs : List DBlame) (A2 : Option Addr) (n2 c2 : Nat) (ys : List DBlame) (w : World) (h1 : SlR 4 48 RBlame w w.heap.size A1 n1 c1 xs) (h2 : SlR 4 48 RBlame w w.heap.size A2 n2 c2 ys) :
    Calls Try.prog 4 #[.slice A1 n1 c1, .slice A2 n2 c2] w fun e w' => e = .returned (.bool true) ∧ Below w.heap.size w w' := by
  have g1 : n1 ≤ 9223372036854775807 := by have := h1.2.1; have := h1.2.2.1; unfold maxLen at this; omega
  have g2 : n2 ≤ 9223372036854775807 := by have := h2.2.1; have := h2.2.2.1; unfold maxLen at this; omega
  by_cases hn1 : n1 ≤ 40
  · by_cases hn2 : n2 ≤ 40
    · exact unwindMerges_few A1 A2 n1 n2 c1 c2 xs ys w h1 h2 hn1 hn2
    · have q1 : ¬ ((40 : Int) < (n1 : Int)) := by omega
      have q2 : (40 : Int) < (n2 : Int) := by omega
      clear h1 h2 hn1 hn2
      go_enter Try.func4, Try.ntmps4
      go_wp2_with fail
      refine (uw_lives _).mono ?_
      rintro e w1 ⟨rfl, hb⟩
      go_wp2_with fail
      go_ret
      exact ⟨rfl, hb⟩
  · have q1 : (40 : Int) < (n1 : Int) := by omega
    clear h1 h2 hn1
    go_enter Try.func4, Try.ntmps4
    go_wp2_with fail
    refine (uw_lives _).mono ?_
    rintro e w1 ⟨rfl, hb⟩
    go_wp2_with fail
    go_ret
    exact ⟨rfl, hb⟩
end Go.Proofs.Ytnnpgljmfjemnaa
