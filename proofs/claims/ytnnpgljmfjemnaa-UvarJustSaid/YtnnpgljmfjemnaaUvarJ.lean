/-
  Numbers as few bytes: the walk of UvarJust.
-/
import Derived.Test.YtnnpgljmfjemnaaUvarK
namespace Go.Proofs.Ytnnpgljmfjemnaa
open Go.RowKit
set_option linter.unusedSimpArgs false
set_option linter.unusedVariables false

theorem slb_take {W : World} {B : Nat} {A : Option Addr} {n c k : Nat} {l : List Nat} (h : SlB W B A n c l) (hk : k ≤ n) : SlB W B A k c (l.take k) := by
  obtain ⟨⟨h1, h2, h3, h4, h5⟩, hb⟩ := h
  refine ⟨⟨by rw [List.length_take]; omega, by omega, h3, by omega, fun h0 => ?_⟩, fun b hb' => hb b (List.mem_of_mem_take hb')⟩
  obtain ⟨b, off, hA, hB, hx⟩ := h5 (by omega)
  refine ⟨b, off, hA, hB, fun i x hi => hx i x ?_⟩
  have hlt := (List.getElem?_eq_some_iff.1 hi).1
  rw [List.length_take] at hlt
  rw [List.getElem?_take_of_lt (by omega)] at hi
  exact hi
theorem run_slice_high (W : World) (b off n c k : Nat) (hk0 : 0 < k) (hk : k ≤ c) :
    (Instr.slice 61 (.slice (some ⟨b, off, none⟩) n c) none (some (.int .i64 (k : Int))) none).run Try.prog W = .ok (.slice (some ⟨b, off, none⟩) k c) W := by
  obtain ⟨i0, hi, hz0, hz1, hz2⟩ := info_parts info_byte
  have he : Try.prog.elem 61 = 5 := by simp [Program.elem, Try.underlying61]
  have ht' : Try.prog.underlying 61 = some (.slice (Try.prog.elem 61)) := by rw [he]; exact Try.underlying61
  have hz : ∀ w, (Go.sizeOf 5).run Try.prog w = .ok 1 w := by
    intro w
    simp [sizeOf, typeInfo, hi, hz1]
  rw [run_slice_h W 61 _ _ _ ht' .i64 _ (by omega) (by omega), he, hz]
  have hne : ¬ c = 0 := by omega
  simp [Result.andThen, sliced, Addr.add, hne]

set_option maxRecDepth 100000 in
set_option maxHeartbeats 2000000 in
theorem uvarJust_good (x k b off n c : Nat) (s : ByteArray) (w : World) (hk : 0 < k) (hkn : k ≤ n) (hnc : n ≤ c) (hc : c ≤ maxLen)
    (c1 : ∀ w' : World, w' = w → Hid (Calls Try.prog 56 #[.slice (some ⟨b, off, none⟩) n c] w' fun e w'' => e = .returned (.tuple #[.int .u64 (x : Int), .int .i64 (k : Int), .int .i64 0]) ∧ w' = w''))
    (e15 : ∀ W, Below w.heap.size w W → (convert 61 9 (.slice (some ⟨b, off, none⟩) k c)).run Try.prog W = .ok (.string s) W)
    (L : Nat) (c10 : ∀ w : World, Hid (Calls Try.prog 65 #[.slice none 0 0, .int .u64 (x : Int)] w fun e w' => ∃ g cap, e = .returned (.slice (some ⟨g, 0, none⟩) L cap) ∧ (convert 61 9 (.slice (some ⟨g, 0, none⟩) L cap)).run Try.prog w' = .ok (.string s) w' ∧ Below w.heap.size w w')) :
    Calls Try.prog 13 #[.slice (some ⟨b, off, none⟩) n c] w fun e w' => e = .returned (.bool true) ∧ Below w.heap.size w w' := by
  have c6 : ∀ w : World, Hid (Calls Try.prog 60 #[] w fun e w' => e = .returned (.bool true) ∧ Below w.heap.size w w') := fun w => uvar_lives w
  have hk0 : (0 : Int) < (k : Int) := by omega
  have hkn' : (k : Int) ≤ (n : Int) := by omega
  have hnm : n ≤ 9223372036854775807 := by unfold maxLen at hc; omega
  have t0 : (s.toList == s.toList) = true := by simp
  have e14 : ∀ W, (Instr.slice 61 (.slice (some ⟨b, off, none⟩) n c) none (some (.int .i64 (k : Int))) none).run Try.prog W = .ok (.slice (some ⟨b, off, none⟩) k c) W := fun W => run_slice_high W b off n c k hk (by omega)
  have hS0 : Below w.heap.size w w.drew := (Below.refl _ _).drew
  clear hnc hc
  go_enter Try.func13, Try.ntmps13
  go_wp2_with fail
  refine Calls.mono (c1 _ rfl).out ?_
  rintro e w1 ⟨rfl, rfl⟩
  clear c1
  go_wp2_with fail
  refine wp_region_held (S := fun W => Below w.heap.size w W) (by kernel_rfl) ?_
  change wpAnyH _ _ _ _ _ _ _ _ (World.drew _)
  refine wpAnyH_one (i := 0) (by kernel_rfl) rfl (fun K hK => ?_)
  go_simp
  refine hK _ _ ⟨hS0, ?_⟩; clear hK K
  refine wpAnyH_one (i := 1) (by kernel_rfl) rfl (fun K hK => ?_)
  go_simp
  refine hK _ _ ⟨hS0, ?_⟩; clear hK K
  refine wpAnyH_one (i := 2) (by kernel_rfl) rfl (fun K hK => ?_)
  go_simp
  refine hK _ _ ⟨hS0, ?_⟩; clear hK K
  refine wpAnyH_take (i := 3) (v := .int .i64 (k : Int)) rfl (by kernel_rfl) (by kernel_rfl) (by kernel_rfl) (fun _ _ _ h => h) (Or.inl ⟨by rfl, by intro W hW; go_simp; try (with_reducible rfl)⟩) hS0 ?_
  refine wpAnyH_take (i := 4) (v := .slice (some ⟨b, off, none⟩) n c) rfl (by kernel_rfl) (by kernel_rfl) (by kernel_rfl) (fun _ _ _ h => h) (Or.inl ⟨by rfl, by intro W hW; go_simp; try (with_reducible rfl)⟩) hS0 ?_
  refine wpAnyH_take (i := 5) (v := .int .i64 (n : Int)) rfl (by kernel_rfl) (by kernel_rfl) (by kernel_rfl) (fun _ _ _ h => h) (Or.inl ⟨by rfl, by intro W hW; go_simp; try (with_reducible rfl)⟩) hS0 ?_
  refine wpAnyH_one (i := 6) (by kernel_rfl) rfl (fun K hK => ?_)
  go_simp
  refine hK _ _ ⟨hS0, ?_⟩; clear hK K
  refine wpAnyH_one (i := 7) (by kernel_rfl) rfl (fun K hK => ?_)
  go_simp
  refine hK _ _ ⟨hS0, ?_⟩; clear hK K
  refine wpAnyH_one (i := 8) (by kernel_rfl) rfl (fun K hK => ?_)
  go_simp
  refine hK _ _ ⟨hS0, ?_⟩; clear hK K
  refine wpAnyH_take (i := 9) (v := .int .u64 (x : Int)) rfl (by kernel_rfl) (by kernel_rfl) (by kernel_rfl) (fun _ _ _ h => h) (Or.inl ⟨by rfl, by intro W hW; go_simp; try (with_reducible rfl)⟩) hS0 ?_
  refine wpAnyH_take (i := 12) (v := .slice (some ⟨b, off, none⟩) n c) rfl (by kernel_rfl) (by kernel_rfl) (by kernel_rfl) (fun _ _ _ h => h) (Or.inl ⟨by rfl, by intro W hW; go_simp; try (with_reducible rfl)⟩) hS0 ?_
  refine wpAnyH_take (i := 13) (v := .int .i64 (k : Int)) rfl (by kernel_rfl) (by kernel_rfl) (by kernel_rfl) (fun _ _ _ h => h) (Or.inl ⟨by rfl, by intro W hW; go_simp; try (with_reducible rfl)⟩) hS0 ?_
  refine wpAnyH_take (i := 14) (v := .slice (some ⟨b, off, none⟩) k c) rfl (by kernel_rfl) (by kernel_rfl) (by kernel_rfl) (fun _ _ _ h => h) (Or.inl ⟨by rfl, by intro W hW; have e14 := e14 W; go_simp; try (with_reducible rfl)⟩) hS0 ?_
  refine wpAnyH_take (i := 15) (v := .string s) rfl (by kernel_rfl) (by kernel_rfl) (by kernel_rfl) (fun _ _ _ h => h) (Or.inl ⟨by rfl, by intro W hW; have e15 := e15 W hW; go_simp; try (with_reducible rfl)⟩) hS0 ?_
  refine wpAnyH_one (i := 10) (by kernel_rfl) rfl (fun K hK => ?_)
  go_simp
  refine Calls.mono (c10 _).out ?_
  rintro e w4 ⟨g4, cap4, rfl, e11, hb4⟩
  have hS4 : Below w.heap.size w w4 := bl_trans hS0 hS0.size hb4
  go_simp
  refine hK _ _ ⟨hS4, ?_⟩; clear hK K
  refine wpAnyH_one (i := 11) (by kernel_rfl) rfl (fun K hK => ?_)
  go_simp
  refine hK _ _ ⟨hS4, ?_⟩; clear hK K
  refine wpAnyH_one (i := 16) (by kernel_rfl) rfl (fun K hK => ?_)
  go_simp
  refine hK _ _ ⟨hS4, ?_⟩; clear hK K
  refine wpAnyH_one (i := 17) (by kernel_rfl) rfl (fun K hK => ?_)
  go_simp
  refine hK _ _ ⟨hS4, ?_⟩; clear hK K
  refine wpAnyH_one (i := 18) (by kernel_rfl) rfl (fun K hK => ?_)
  go_simp
  refine hK _ _ ⟨hS4, ?_⟩; clear hK K
  refine wpAnyH_one (i := 19) (by kernel_rfl) rfl (fun K hK => ?_)
  go_simp
  refine Calls.mono (c6 _).out ?_
  rintro e w6 ⟨rfl, hb6⟩
  have hS6 : Below w.heap.size w w6 := bl_trans hS4 hS4.size hb6
  go_simp
  refine hK _ _ ⟨hS6, ?_⟩; clear hK K
  refine wpAnyH_one (i := 20) (by kernel_rfl) rfl (fun K hK => ?_)
  go_simp
  refine hK _ _ ⟨hS6, ?_⟩; clear hK K
  refine wpAnyH_one (i := 21) (by kernel_rfl) rfl (fun K hK => ?_)
  go_simp
  refine hK _ _ ⟨hS6, ?_⟩; clear hK K
  refine wpAnyH_done (by kernel_rfl) ?_ _
  go_wp2_with fail
  go_ret
  exact ⟨rfl, hS6⟩

theorem uvarJust_law (A : Option Addr) (n c : Nat) (xs : List Int) (w : World) (hx : SlR 1 1 (RInt .u8) w w.heap.size A n c xs) :
    Calls Try.prog 13 #[.slice A n c] w fun e w' => e = .returned (.bool true) ∧ Below w.heap.size w w' := by
  have hcm : c ≤ maxLen := hx.2.2.1
  have hmc : n ≤ c := hx.2.1
  obtain ⟨l, hs⟩ := slb_of hx
  have c1 : ∀ w' : World, w' = w → Hid (Calls Try.prog 56 #[.slice A n c] w' fun e w'' => e = .returned (getV l) ∧ w' = w'') := fun w' h => by subst h; exact uvar_Get_any _ A n c l _ hs
  by_cases hy : (getM l).2.2 = 0
  · obtain ⟨x, k, hv⟩ : ∃ x k, getM l = (x, k, 0) := ⟨(getM l).1, (getM l).2.1, by rw [← hy]⟩
    obtain ⟨h1, h2, h3, h4⟩ := get_just hs.2 hv
    have hln := hs.1.1
    obtain ⟨b, off, rfl, _, _⟩ := hs.1.2.2.2.2 (by omega)
    have e : getV l = .tuple #[.int .u64 (x : Int), .int .i64 (k : Int), .int .i64 0] := by unfold getV; rw [hv]; rfl
    rw [e] at c1
    refine uvarJust_good x k b off n c (strB (l.take k)) w h1 (by omega) hmc hcm c1 (fun W hW => ?_) (putM x).length (fun w' => ?_)
    · have h := slb_take hs (show k ≤ n by omega)
      exact conv_slb (B := w.heap.size) ⟨h.1.keep (stable_rc _) (fun p hp => hW.cell hp), h.2⟩
    · rw [← h3]
      refine (uvar_Put_nil x h4 w').mono ?_
      rintro e w2 ⟨g, cap, rfl, hown, hb⟩
      exact ⟨g, cap, rfl, conv_slb (slb_own hown (putF_byte 9 _ (by rw [lim9]; exact h4))), hb⟩
  · obtain ⟨z1, z2⟩ := get_none l 0 0 hy
    obtain ⟨y, hyv⟩ : ∃ y, (getM l).2.2 = y := ⟨_, rfl⟩
    have e : getV l = .tuple #[.int .u64 0, .int .i64 0, .int .i64 (y : Int)] := by
      unfold getV
      rw [show (getM l).1 = 0 from z1, show (getM l).2.1 = 0 from z2, hyv]
      rfl
    rw [e] at c1
    rw [hyv] at hy
    have hne : ((y : Int) == 0) = false := by simp; omega
    have hne' : ¬ ((y : Int) = 0) := by omega
    clear e z1 z2 hyv hy hs hx
    go_enter Try.func13, Try.ntmps13
    go_wp2_with fail
    refine Calls.mono (c1 _ rfl).out ?_
    rintro e w1 ⟨rfl, rfl⟩
    go_wp2_with fail
    refine (uvar_lives _).mono ?_
    rintro e w1 ⟨rfl, hb⟩
    go_wp2_with fail
    go_ret
    exact ⟨rfl, hb⟩
end Go.Proofs.Ytnnpgljmfjemnaa
