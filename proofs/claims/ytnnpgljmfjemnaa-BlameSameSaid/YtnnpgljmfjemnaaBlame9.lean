/-
  Panics: the walk of BlameSame.
-/
import Derived.Test.YtnnpgljmfjemnaaBlame8
namespace Go.Proofs.Ytnnpgljmfjemnaa
open Go.RowKit
set_option linter.unusedSimpArgs false
set_option linter.unusedVariables false

set_option maxRecDepth 100000 in
set_option maxHeartbeats 2000000 in
theorem blameSame_few (k1 n1 : Int) (r1 : Bool) (k2 n2 : Int) (r2 : Bool) (A1 A2 : Option Addr) (m1 c1 m2 c2 : Nat) (l1 l2 : List DEntry) (w : World) (h1 : SlE w w.heap.size A1 m1 c1 l1) (h2 : SlE w w.heap.size A2 m2 c2 l2) (hm1 : m1 ≤ 60) (hm2 : m2 ≤ 60) :
    Calls Try.prog 6 #[blameV k1 n1 r1 A1 m1 c1, blameV k2 n2 r2 A2 m2 c2] w fun e w' => e = .returned (.bool true) ∧ Below w.heap.size w w' := by
  have cn : ∀ W : World, Below w.heap.size w W → Hid (Calls Try.prog 27 #[.int .i64 k1, .int .i64 n1, .slice A1 m1 c1] W fun e w' => ∃ A' m' c', e = .returned (blameV k1 n1 false A' m' c') ∧ SlE w' w'.heap.size A' m' c' l1 ∧ Below W.heap.size W w') :=
    fun W hW => new_any k1 n1 w.heap.size A1 m1 c1 l1 W (h1.keep hW) hW.size
  have q1 : ¬ ((60 : Int) < (m1 : Int)) := by omega
  have q2 : ¬ ((60 : Int) < (m2 : Int)) := by omega
  have hA : Below w.heap.size w ((w.alloc (.cells #[.int .i64 k1, .int .i64 n1, .bool r1, .slice A1 m1 c1] 35)).alloc (.cells #[.int .i64 k2, .int .i64 n2, .bool r2, .slice A2 m2 c2] 35)) := ((Below.refl _ _).alloc (Nat.le_refl _) _).alloc (by simp) _
  go_enter Try.func6, Try.ntmps6
  go_wp2_with fail
  refine Calls.mono (cn _ hA).out ?_
  rintro e w3 ⟨A', m', c', rfl, hs3, hb3⟩
  obtain ⟨w5, hw5⟩ : ∃ w5, w3.alloc (.cells #[.int .i64 k1, .int .i64 n1, .bool false, .slice A' m' c'] 35) = w5 := ⟨_, rfl⟩
  have h5 : Below w.heap.size w w5 := by
    rw [← hw5]
    exact ((hA.trans (hb3.mono hA.size))).alloc (Nat.le_trans hA.size hb3.size) _
  have hz3 : w.heap.size + 2 ≤ w3.heap.size := by have := hb3.size; simp at this; omega
  have hz5 : w5.heap.size = w3.heap.size + 1 := by rw [← hw5]; simp
  have hcA : ∀ W, Below w5.heap.size w5 W → Below (w.heap.size + 1) (w.alloc (.cells #[.int .i64 k1, .int .i64 n1, .bool r1, .slice A1 m1 c1] 35)) W := fun W hW => by
    refine Below.trans ?_ (hW.mono (by omega))
    rw [← hw5]
    refine Below.alloc ?_ (by omega) _
    exact ((Below.refl _ _).alloc (by simp) _).trans (hb3.mono (by simp))
  have hcB : ∀ W, Below w5.heap.size w5 W → Below ((w.alloc (.cells #[.int .i64 k1, .int .i64 n1, .bool r1, .slice A1 m1 c1] 35)).heap.size + 1) ((w.alloc (.cells #[.int .i64 k1, .int .i64 n1, .bool r1, .slice A1 m1 c1] 35)).alloc (.cells #[.int .i64 k2, .int .i64 n2, .bool r2, .slice A2 m2 c2] 35)) W := fun W hW => by
    refine Below.trans ?_ (hW.mono (by simp; omega))
    rw [← hw5]
    refine Below.alloc ?_ (by simp; omega) _
    exact hb3.mono (by simp)
  have hcC : ∀ W, Below w5.heap.size w5 W → Below (w3.heap.size + 1) (w3.alloc (.cells #[.int .i64 k1, .int .i64 n1, .bool false, .slice A' m' c'] 35)) W := fun W hW => by
    rw [hw5]
    exact hW.mono (by omega)
  have ea0 : ∀ W, Below w5.heap.size w5 W → W.cell? ⟨w.heap.size, 0, none⟩ = some (.int .i64 k1) := fun W hW => by
    have := box_cells _ _ _ W (hcA W hW) 0 _ rfl
    simpa using this
  have ea1 : ∀ W, Below w5.heap.size w5 W → W.cell? ⟨w.heap.size, 1, none⟩ = some (.int .i64 n1) := fun W hW => by
    have := box_cells _ _ _ W (hcA W hW) 1 _ rfl
    simpa using this
  have ea2 : ∀ W, Below w5.heap.size w5 W → W.cell? ⟨w.heap.size, 2, none⟩ = some (.bool r1) := fun W hW => by
    have := box_cells _ _ _ W (hcA W hW) 2 _ rfl
    simpa using this
  have ea3 : ∀ W, Below w5.heap.size w5 W → W.cell? ⟨w.heap.size, 3, none⟩ = some (.slice A1 m1 c1) := fun W hW => by
    have := box_cells _ _ _ W (hcA W hW) 3 _ rfl
    simpa using this
  have eb0 : ∀ W, Below w5.heap.size w5 W → W.cell? ⟨w.heap.size + 1, 0, none⟩ = some (.int .i64 k2) := fun W hW => by
    have := box_cells _ _ _ W (hcB W hW) 0 _ rfl
    simpa using this
  have eb1 : ∀ W, Below w5.heap.size w5 W → W.cell? ⟨w.heap.size + 1, 1, none⟩ = some (.int .i64 n2) := fun W hW => by
    have := box_cells _ _ _ W (hcB W hW) 1 _ rfl
    simpa using this
  have eb2 : ∀ W, Below w5.heap.size w5 W → W.cell? ⟨w.heap.size + 1, 2, none⟩ = some (.bool r2) := fun W hW => by
    have := box_cells _ _ _ W (hcB W hW) 2 _ rfl
    simpa using this
  have eb3 : ∀ W, Below w5.heap.size w5 W → W.cell? ⟨w.heap.size + 1, 3, none⟩ = some (.slice A2 m2 c2) := fun W hW => by
    have := box_cells _ _ _ W (hcB W hW) 3 _ rfl
    simpa using this
  have ec0 : ∀ W, Below w5.heap.size w5 W → W.cell? ⟨w3.heap.size, 0, none⟩ = some (.int .i64 k1) := fun W hW => by
    have := box_cells _ _ _ W (hcC W hW) 0 _ rfl
    simpa using this
  have ec1 : ∀ W, Below w5.heap.size w5 W → W.cell? ⟨w3.heap.size, 1, none⟩ = some (.int .i64 n1) := fun W hW => by
    have := box_cells _ _ _ W (hcC W hW) 1 _ rfl
    simpa using this
  have ec2 : ∀ W, Below w5.heap.size w5 W → W.cell? ⟨w3.heap.size, 2, none⟩ = some (.bool false) := fun W hW => by
    have := box_cells _ _ _ W (hcC W hW) 2 _ rfl
    simpa using this
  have ec3 : ∀ W, Below w5.heap.size w5 W → W.cell? ⟨w3.heap.size, 3, none⟩ = some (.slice A' m' c') := fun W hW => by
    have := box_cells _ _ _ W (hcC W hW) 3 _ rfl
    simpa using this
  have hup : ∀ W, Below w5.heap.size w5 W → Below w.heap.size w W := fun W hW => h5.trans (hW.mono h5.size)
  have cs : ∀ W : World, Below w5.heap.size w5 W → Hid (Calls Try.prog 28 #[blameV k1 n1 r1 A1 m1 c1, blameV k2 n2 r2 A2 m2 c2] W fun e w' => e = .returned (.bool (eqH k1 n1 r1 k2 n2 r2 && eqEs l1 l2)) ∧ Below W.heap.size W w') := fun W hW => same_any k1 n1 r1 k2 n2 r2 w.heap.size A1 A2 m1 c1 m2 c2 l1 l2 W (h1.keep (hup W hW)) (h2.keep (hup W hW)) (hup W hW).size
  have cr : ∀ W : World, Below w5.heap.size w5 W → Hid (Calls Try.prog 29 #[blameV k1 n1 r1 A1 m1 c1, blameV k2 n2 r2 A2 m2 c2] W fun e w' => e = .returned (.bool (eqH k1 n1 r1 k2 n2 r2 && eqEs l1 l2)) ∧ Below W.heap.size W w') := fun W hW => refSame_any k1 n1 r1 k2 n2 r2 w.heap.size A1 A2 m1 c1 m2 c2 l1 l2 W (h1.keep (hup W hW)) (h2.keep (hup W hW)) (hup W hW).size
  have cc : ∀ W : World, Below w5.heap.size w5 W → Hid (Calls Try.prog 29 #[blameV k1 n1 false A' m' c', blameV k1 n1 false A1 m1 c1] W fun e w' => e = .returned (.bool true) ∧ Below W.heap.size W w') := fun W hW => by
    have h3W : Below w3.heap.size w3 W := by
      refine Below.trans ?_ (hW.mono (by omega))
      rw [← hw5]
      exact (Below.refl _ _).alloc (Nat.le_refl _) _
    have := refSame_any k1 n1 false k1 n1 false w3.heap.size A' A1 m' c' m1 c1 l1 l1 W (hs3.keep h3W) ((h1.keep (hup W hW)).up (by omega)) h3W.size
    rw [show (eqH k1 n1 false k1 n1 false && eqEs l1 l1) = true by simp [eqH, eqEs_refl]] at this
    exact this
  have cl : ∀ w : World, Hid (Calls Try.prog 21 #[] w fun e w' => e = .returned (.bool true) ∧ Below w.heap.size w w') := fun w => blame_lives w
  obtain ⟨v, hv⟩ : ∃ v, (eqH k1 n1 r1 k2 n2 r2 && eqEs l1 l2) = v := ⟨_, rfl⟩
  rw [hv] at cs cr
  have tv : (v == v) = true := by simp
  have hS0 : Below w5.heap.size w5 w5.drew := (Below.refl _ _).drew
  clear hcA hcB hcC hv hs3 hb3 h1 h2 hup
  go_wp2_with fail
  refine wp_region_held (S := fun W => Below w5.heap.size w5 W) (by kernel_rfl) ?_
  change wpAnyH _ _ _ _ _ _ _ _ (World.drew _)
  refine wpAnyH_take (i := 0) (v := blameV k1 n1 r1 A1 m1 c1) rfl (by kernel_rfl) (by kernel_rfl) (by kernel_rfl) (fun _ _ _ h => h) (Or.inl ⟨by rfl, by intro W hW; have a0 := ea0 W hW; have a1 := ea1 W hW; have a2 := ea2 W hW; have a3 := ea3 W hW; go_simp; try (with_reducible rfl)⟩) hS0 ?_
  refine wpAnyH_take (i := 1) (v := blameV k2 n2 r2 A2 m2 c2) rfl (by kernel_rfl) (by kernel_rfl) (by kernel_rfl) (fun _ _ _ h => h) (Or.inl ⟨by rfl, by intro W hW; have a0 := eb0 W hW; have a1 := eb1 W hW; have a2 := eb2 W hW; have a3 := eb3 W hW; go_simp; try (with_reducible rfl)⟩) hS0 ?_
  refine wpAnyH_take (i := 3) (v := blameV k1 n1 r1 A1 m1 c1) rfl (by kernel_rfl) (by kernel_rfl) (by kernel_rfl) (fun _ _ _ h => h) (Or.inl ⟨by rfl, by intro W hW; have a0 := ea0 W hW; have a1 := ea1 W hW; have a2 := ea2 W hW; have a3 := ea3 W hW; go_simp; try (with_reducible rfl)⟩) hS0 ?_
  refine wpAnyH_take (i := 4) (v := blameV k2 n2 r2 A2 m2 c2) rfl (by kernel_rfl) (by kernel_rfl) (by kernel_rfl) (fun _ _ _ h => h) (Or.inl ⟨by rfl, by intro W hW; have a0 := eb0 W hW; have a1 := eb1 W hW; have a2 := eb2 W hW; have a3 := eb3 W hW; go_simp; try (with_reducible rfl)⟩) hS0 ?_
  refine wpAnyH_one (i := 2) (by kernel_rfl) rfl (fun K hK => ?_)
  go_simp
  refine Calls.mono (cs _ hS0).out ?_
  rintro e w6 ⟨rfl, hb6⟩
  have hS6 := bl_trans hS0 hS0.size hb6
  go_simp
  refine hK _ _ ⟨hS6, ?_⟩; clear hK K
  refine wpAnyH_one (i := 5) (by kernel_rfl) rfl (fun K hK => ?_)
  go_simp
  refine Calls.mono (cr _ hS6).out ?_
  rintro e w7 ⟨rfl, hb7⟩
  have hS7 := bl_trans hS6 hS6.size hb7
  go_simp
  refine hK _ _ ⟨hS7, ?_⟩; clear hK K
  refine wpAnyH_one (i := 6) (by kernel_rfl) rfl (fun K hK => ?_)
  go_simp
  refine hK _ _ ⟨hS7, ?_⟩; clear hK K
  refine wpAnyH_one (i := 7) (by kernel_rfl) rfl (fun K hK => ?_)
  go_simp
  refine hK _ _ ⟨hS7, ?_⟩; clear hK K
  refine wpAnyH_take (i := 8) (v := blameV k1 n1 false A' m' c') rfl (by kernel_rfl) (by kernel_rfl) (by kernel_rfl) (fun _ _ _ h => h) (Or.inl ⟨by rfl, by intro W hW; have a0 := ec0 W hW; have a1 := ec1 W hW; have a2 := ec2 W hW; have a3 := ec3 W hW; go_simp; try (with_reducible rfl)⟩) hS7 ?_
  refine wpAnyH_take (i := 9) (v := .pointer (some ⟨w.heap.size, 0, none⟩)) rfl (by kernel_rfl) (by kernel_rfl) (by kernel_rfl) (fun _ _ _ h => h) (Or.inl ⟨by rfl, by intro W hW; go_simp; try (with_reducible rfl)⟩) hS7 ?_
  refine wpAnyH_take (i := 10) (v := .int .i64 k1) rfl (by kernel_rfl) (by kernel_rfl) (by kernel_rfl) (fun _ _ _ h => h) (Or.inl ⟨by rfl, by intro W hW; have a0 := ea0 W hW; have a1 := ea1 W hW; have a2 := ea2 W hW; have a3 := ea3 W hW; go_simp; try (with_reducible rfl)⟩) hS7 ?_
  refine wpAnyH_take (i := 11) (v := .pointer (some ⟨w.heap.size, 1, none⟩)) rfl (by kernel_rfl) (by kernel_rfl) (by kernel_rfl) (fun _ _ _ h => h) (Or.inl ⟨by rfl, by intro W hW; go_simp; try (with_reducible rfl)⟩) hS7 ?_
  refine wpAnyH_take (i := 12) (v := .int .i64 n1) rfl (by kernel_rfl) (by kernel_rfl) (by kernel_rfl) (fun _ _ _ h => h) (Or.inl ⟨by rfl, by intro W hW; have a0 := ea0 W hW; have a1 := ea1 W hW; have a2 := ea2 W hW; have a3 := ea3 W hW; go_simp; try (with_reducible rfl)⟩) hS7 ?_
  refine wpAnyH_take (i := 13) (v := .pointer (some ⟨w.heap.size, 3, none⟩)) rfl (by kernel_rfl) (by kernel_rfl) (by kernel_rfl) (fun _ _ _ h => h) (Or.inl ⟨by rfl, by intro W hW; go_simp; try (with_reducible rfl)⟩) hS7 ?_
  refine wpAnyH_take (i := 14) (v := .slice A1 m1 c1) rfl (by kernel_rfl) (by kernel_rfl) (by kernel_rfl) (fun _ _ _ h => h) (Or.inl ⟨by rfl, by intro W hW; have a0 := ea0 W hW; have a1 := ea1 W hW; have a2 := ea2 W hW; have a3 := ea3 W hW; go_simp; try (with_reducible rfl)⟩) hS7 ?_
  refine wpAnyH_take (i := 15) (v := blameV k1 n1 false A1 m1 c1) rfl (by kernel_rfl) (by kernel_rfl) (by kernel_rfl) (fun _ _ _ h => h) (Or.inl ⟨by rfl, by intro W hW; go_simp; try (with_reducible rfl)⟩) hS7 ?_
  refine wpAnyH_one (i := 16) (by kernel_rfl) rfl (fun K hK => ?_)
  go_simp
  refine Calls.mono (cc _ hS7).out ?_
  rintro e w8 ⟨rfl, hb8⟩
  have hS8 := bl_trans hS7 hS7.size hb8
  go_simp
  refine hK _ _ ⟨hS8, ?_⟩; clear hK K
  refine wpAnyH_one (i := 17) (by kernel_rfl) rfl (fun K hK => ?_)
  go_simp
  refine hK _ _ ⟨hS8, ?_⟩; clear hK K
  refine wpAnyH_one (i := 18) (by kernel_rfl) rfl (fun K hK => ?_)
  go_simp
  refine hK _ _ ⟨hS8, ?_⟩; clear hK K
  refine wpAnyH_one (i := 19) (by kernel_rfl) rfl (fun K hK => ?_)
  go_simp
  refine Calls.mono (cl _).out ?_
  rintro e w9 ⟨rfl, hb9⟩
  have hS9 := bl_trans hS8 hS8.size hb9
  go_simp
  refine hK _ _ ⟨hS9, ?_⟩; clear hK K
  refine wpAnyH_one (i := 20) (by kernel_rfl) rfl (fun K hK => ?_)
  go_simp
  refine hK _ _ ⟨hS9, ?_⟩; clear hK K
  refine wpAnyH_one (i := 21) (by kernel_rfl) rfl (fun K hK => ?_)
  go_simp
  refine hK _ _ ⟨hS9, ?_⟩; clear hK K
  refine wpAnyH_done (by kernel_rfl) ?_ _
  go_wp2_with fail
  go_ret
  exact ⟨rfl, h5.trans (hS9.mono h5.size)⟩

theorem blameSame_law (cs1 : Array Value) (x1 : DBlame) (cs2 : Array Value) (x2 : DBlame) (w : World) (h1 : RBlame w w.heap.size cs1.toList x1) (h2 : RBlame w w.heap.size cs2.toList x2) :
    Calls Try.prog 6 #[.agg cs1, .agg cs2] w fun e w' => e = .returned (.bool true) ∧ Below w.heap.size w w' := by
  obtain ⟨A1, m1, c1, e1, _, _, s1⟩ := h1
  obtain ⟨A2, m2, c2, e2, _, _, s2⟩ := h2
  obtain rfl : cs1 = #[.int .i64 x1.kind, .int .i64 x1.num, .bool x1.reco, .slice A1 m1 c1] := by apply Array.toList_inj.1; exact e1
  obtain rfl : cs2 = #[.int .i64 x2.kind, .int .i64 x2.num, .bool x2.reco, .slice A2 m2 c2] := by apply Array.toList_inj.1; exact e2
  have g1 : m1 ≤ 9223372036854775807 := by have := s1.2.1; have := s1.2.2.1; unfold maxLen at this; omega
  have g2 : m2 ≤ 9223372036854775807 := by have := s2.2.1; have := s2.2.2.1; unfold maxLen at this; omega
  obtain ⟨k1, hk1⟩ : ∃ z, x1.kind = z := ⟨_, rfl⟩
  obtain ⟨n1, hn1⟩ : ∃ z, x1.num = z := ⟨_, rfl⟩
  obtain ⟨r1, hr1⟩ : ∃ z, x1.reco = z := ⟨_, rfl⟩
  obtain ⟨k2, hk2⟩ : ∃ z, x2.kind = z := ⟨_, rfl⟩
  obtain ⟨n2, hn2⟩ : ∃ z, x2.num = z := ⟨_, rfl⟩
  obtain ⟨r2, hr2⟩ : ∃ z, x2.reco = z := ⟨_, rfl⟩
  rw [hk1, hn1, hr1, hk2, hn2, hr2]
  by_cases hm1 : m1 ≤ 60
  · by_cases hm2 : m2 ≤ 60
    · exact blameSame_few k1 n1 r1 k2 n2 r2 A1 A2 m1 c1 m2 c2 _ _ w s1 s2 hm1 hm2
    · have q1 : ¬ ((60 : Int) < (m1 : Int)) := by omega
      have q2 : (60 : Int) < (m2 : Int) := by omega
      clear s1 s2 e1 e2 hm1 hm2 hk1 hn1 hr1 hk2 hn2 hr2
      go_enter Try.func6, Try.ntmps6
      go_wp2_with fail
      refine (blame_lives _).mono ?_
      rintro e w1 ⟨rfl, hb⟩
      go_wp2_with fail
      go_ret
      exact ⟨rfl, bl_trans (((Below.refl _ _).alloc (Nat.le_refl _) _).alloc (by simp) _) (by simp; omega) hb⟩
  · have q1 : (60 : Int) < (m1 : Int) := by omega
    clear s1 s2 e1 e2 hm1 hk1 hn1 hr1 hk2 hn2 hr2
    go_enter Try.func6, Try.ntmps6
    go_wp2_with fail
    refine (blame_lives _).mono ?_
    rintro e w1 ⟨rfl, hb⟩
    go_wp2_with fail
    go_ret
    exact ⟨rfl, bl_trans (((Below.refl _ _).alloc (Nat.le_refl _) _).alloc (by simp) _) (by simp; omega) hb⟩
end Go.Proofs.Ytnnpgljmfjemnaa
