/-
  Numbers as few bytes: the example.
-/
import Derived.Test.YtnnpgljmfjemnaaUvar5
namespace Go.Proofs.Ytnnpgljmfjemnaa
open Go.RowKit
set_option linter.unusedSimpArgs false
set_option linter.unusedVariables false

theorem wpAny_world {P : Program} {md : Region.Mode} {ops : Array Oper} {Q : Exit → Act → World → Prop} {fuel : Nat} {l : Array Bool} {a : Act} {w : World} {p : World → Prop} (hp : p w) (h : ∀ W, p W → wpAny P md ops Q fuel l a W) : wpAny P md ops Q fuel l a w := h w hp
theorem wpAny_as {P : Program} {md : Region.Mode} {ops : Array Oper} {Q : Exit → Act → World → Prop} {fuel : Nat} {l l' : Array Bool} {a : Act} {w : World} (h : l = l') (H : wpAny P md ops Q fuel l a w) : wpAny P md ops Q fuel l' a w := h ▸ H
theorem bl_trans {B : Nat} {a b c : World} (h : Below B a b) (hB : B ≤ b.heap.size) (k : Below b.heap.size b c) : Below B a c := h.trans (k.mono hB)

set_option maxRecDepth 100000 in
set_option maxHeartbeats 1000000 in
theorem uvar_lives (w : World) : Calls Try.prog 60 #[] w fun e w' => e = .returned (.bool true) ∧ Below w.heap.size w w' := by
  have c3 : ∀ w : World, Hid (Calls Try.prog 65 #[.slice none 0 0, .int .u64 300] w (IsBytes [172, 2] w)) := fun w => by
    rw [← put300]; exact uvar_Put_nil 300 (by omega) w
  have c4 : ∀ w : World, Hid (Calls Try.prog 63 #[.int .i64 (-1)] w fun e w' => e = .returned (.int .u64 1) ∧ w = w') := fun w => uvar_Fold_any (-1) (by omega) w
  go_enter Try.func60, Try.ntmps60
  go_wp2_with fail
  refine (uvar_Get_any _ _ _ _ [128, 0] _ (slb_new _ _ [128, 0] _ rfl (by simp) (by decide))).mono ?_
  rintro e w1 ⟨rfl, rfl⟩
  rw [getV_ex1]
  go_wp2_with fail
  refine (uvar_PutInt_nil _ (by omega) _).mono ?_
  rintro e w2 ⟨g, cap, rfl, hown, hb2⟩
  go_wp2_with fail
  refine (uvar_GetInt_any _ _ _ _ (putM (foldM (-7))) _ (slb_own hown (by decide))).mono ?_
  rintro e w3 ⟨rfl, rfl⟩
  rw [getIV_ex2]
  have hbw : Below w.heap.size w w2 := ((Below.refl _ _).alloc (Nat.le_refl _) _).trans (hb2.mono (by simp))
  clear hown hb2
  generalize (putM (foldM (-7))).length = n7
  have hcv : ∀ (W : World) (g cap : Nat), W.cell? ⟨g, 0, none⟩ = some (.int .u8 172) → W.cell? ⟨g, 1, none⟩ = some (.int .u8 2) → (convert 61 9 (.slice (some ⟨g, 0, none⟩) 2 cap)).run Try.prog W = .ok (.string ⟨#[172, 2]⟩) W := fun W g cap h1 h2 => conv_two W g cap h1 h2
  go_wp2_with fail
  refine wp_region_any (by kernel_rfl) ?_
  change wpAny _ _ _ _ _ _ _ (World.drew _)
  generalize Value.slice (some { block := w.heap.size, off := 0 }) 2 2 = s8
  have hz2 : w.heap.size ≤ w2.heap.size := hbw.size
  refine (fun (hT : ∀ (v19 v21 : Value) (W : World), Below w.heap.size w W → (?T : Value → Value → World → Prop) v19 v21 W) => ?main) ?tail
  case main =>
    refine wpAny_ready (rs := [0, 2]) (by kernel_rfl) (by simp) ?_
    refine AllReady.cons rfl (fun K hK => ?_) ?_
    · go_simp
      go_wp2_with (go_at_call 65; refine Calls.mono (c3 _).out ?_; rintro e w4 ⟨g4, cap4, rfl, hown4, hb4⟩; have hx0 : w4.cell? ⟨g4, 0, none⟩ = some (.int .u8 172) := hown4.cellAt 0 (by decide); have hx1 : w4.cell? ⟨g4, 1, none⟩ = some (.int .u8 2) := hown4.cellAt 1 (by decide); have hx2 := (hown4.lt _ rfl).2; clear hown4)
      have hB4 : Below w.heap.size w w4 := bl_trans hbw.drew hz2 hb4
      refine wpAny_ready (rs := [1, 2]) (by kernel_rfl) (by simp) ?_
      refine AllReady.cons rfl (fun K hK => ?_) ?_
      · go_simp
        refine hK _ _ ?_; clear hK K
        refine wpAny_ready (rs := [2]) (by kernel_rfl) (by simp) ?_
        refine AllReady.cons rfl (fun K hK => ?_) (AllReady.nil)
        · go_simp
          refine hK _ _ ?_; clear hK K
          refine wpAny_ready (rs := [3]) (by kernel_rfl) (by simp) ?_
          refine AllReady.cons rfl (fun K hK => ?_) (AllReady.nil)
          · go_simp
            refine hK _ _ ?_; clear hK K
            refine wpAny_world (p := Below w.heap.size w) ?_ (fun W hW => ?_)
            · first | exact hB4 | exact hB4.alloc (Nat.le_trans hz2 (Nat.le_trans (by first | exact hb4.size | simpa using hb4.size) (Nat.le_refl _))) _
            · generalize Value.slice (some { block := g4, off := 0 }) 2 cap4 = v19
              generalize Value.slice (some { block := w4.heap.size, off := 0 }) 2 2 = v21
              exact hT v19 v21 W hW
      refine AllReady.cons rfl (fun K hK => ?_) (AllReady.nil)
      · go_simp
        refine hK _ _ ?_; clear hK K
        refine wpAny_ready (rs := [1, 3]) (by kernel_rfl) (by simp) ?_
        refine AllReady.cons rfl (fun K hK => ?_) ?_
        · go_simp
          refine hK _ _ ?_; clear hK K
          refine wpAny_ready (rs := [3]) (by kernel_rfl) (by simp) ?_
          refine AllReady.cons rfl (fun K hK => ?_) (AllReady.nil)
          · go_simp
            refine hK _ _ ?_; clear hK K
            refine wpAny_world (p := Below w.heap.size w) ?_ (fun W hW => ?_)
            · first | exact hB4 | exact hB4.alloc (Nat.le_trans hz2 (Nat.le_trans (by first | exact hb4.size | simpa using hb4.size) (Nat.le_refl _))) _
            · exact wpAny_as (by kernel_rfl) (hT _ _ W hW)
        refine AllReady.cons rfl (fun K hK => ?_) (AllReady.nil)
        · go_simp
          refine hK _ _ ?_; clear hK K
          refine wpAny_ready (rs := [1]) (by kernel_rfl) (by simp) ?_
          refine AllReady.cons rfl (fun K hK => ?_) (AllReady.nil)
          · go_simp
            refine hK _ _ ?_; clear hK K
            refine wpAny_world (p := Below w.heap.size w) ?_ (fun W hW => ?_)
            · first | exact hB4 | exact hB4.alloc (Nat.le_trans hz2 (Nat.le_trans (by first | exact hb4.size | simpa using hb4.size) (Nat.le_refl _))) _
            · exact wpAny_as (by kernel_rfl) (hT _ _ W hW)
    refine AllReady.cons rfl (fun K hK => ?_) (AllReady.nil)
    · go_simp
      refine hK _ _ ?_; clear hK K
      refine wpAny_ready (rs := [0, 3]) (by kernel_rfl) (by simp) ?_
      refine AllReady.cons rfl (fun K hK => ?_) ?_
      · go_simp
        go_wp2_with (go_at_call 65; refine Calls.mono (c3 _).out ?_; rintro e w4 ⟨g4, cap4, rfl, hown4, hb4⟩; have hx0 : w4.cell? ⟨g4, 0, none⟩ = some (.int .u8 172) := hown4.cellAt 0 (by decide); have hx1 : w4.cell? ⟨g4, 1, none⟩ = some (.int .u8 2) := hown4.cellAt 1 (by decide); have hx2 := (hown4.lt _ rfl).2; clear hown4)
        have hB4 : Below w.heap.size w w4 := bl_trans (hbw.drew.alloc hz2 _) (by simp; omega) hb4
        have hy0 : w4.cell? ⟨w2.heap.size, 0, none⟩ = some (.int .u8 172) := (hb4.cell (by simp)).trans (cell_of_row _ _ _ _ _ (0, 0) (heap_alloc_new _ _))
        have hy1 : w4.cell? ⟨w2.heap.size, 1, none⟩ = some (.int .u8 2) := (hb4.cell (by simp)).trans (cell_of_row _ _ _ _ _ (0, 0) (heap_alloc_new _ _))
        refine wpAny_ready (rs := [1, 3]) (by kernel_rfl) (by simp) ?_
        refine AllReady.cons rfl (fun K hK => ?_) ?_
        · go_simp
          refine hK _ _ ?_; clear hK K
          refine wpAny_ready (rs := [3]) (by kernel_rfl) (by simp) ?_
          refine AllReady.cons rfl (fun K hK => ?_) (AllReady.nil)
          · go_simp
            refine hK _ _ ?_; clear hK K
            refine wpAny_world (p := Below w.heap.size w) ?_ (fun W hW => ?_)
            · first | exact hB4 | exact hB4.alloc (Nat.le_trans hz2 (Nat.le_trans (by first | exact hb4.size | simpa using hb4.size) (Nat.le_refl _))) _
            · exact wpAny_as (by kernel_rfl) (hT _ _ W hW)
        refine AllReady.cons rfl (fun K hK => ?_) (AllReady.nil)
        · go_simp
          refine hK _ _ ?_; clear hK K
          refine wpAny_ready (rs := [1]) (by kernel_rfl) (by simp) ?_
          refine AllReady.cons rfl (fun K hK => ?_) (AllReady.nil)
          · go_simp
            refine hK _ _ ?_; clear hK K
            refine wpAny_world (p := Below w.heap.size w) ?_ (fun W hW => ?_)
            · first | exact hB4 | exact hB4.alloc (Nat.le_trans hz2 (Nat.le_trans (by first | exact hb4.size | simpa using hb4.size) (Nat.le_refl _))) _
            · exact wpAny_as (by kernel_rfl) (hT _ _ W hW)
      refine AllReady.cons rfl (fun K hK => ?_) (AllReady.nil)
      · go_simp
        refine hK _ _ ?_; clear hK K
        refine wpAny_ready (rs := [0]) (by kernel_rfl) (by simp) ?_
        refine AllReady.cons rfl (fun K hK => ?_) (AllReady.nil)
        · go_simp
          go_wp2_with (go_at_call 65; refine Calls.mono (c3 _).out ?_; rintro e w4 ⟨g4, cap4, rfl, hown4, hb4⟩; have hx0 : w4.cell? ⟨g4, 0, none⟩ = some (.int .u8 172) := hown4.cellAt 0 (by decide); have hx1 : w4.cell? ⟨g4, 1, none⟩ = some (.int .u8 2) := hown4.cellAt 1 (by decide); have hx2 := (hown4.lt _ rfl).2; clear hown4)
          have hB4 : Below w.heap.size w w4 := bl_trans (hbw.drew.alloc hz2 _) (by simp; omega) hb4
          have hy0 : w4.cell? ⟨w2.heap.size, 0, none⟩ = some (.int .u8 172) := (hb4.cell (by simp)).trans (cell_of_row _ _ _ _ _ (0, 0) (heap_alloc_new _ _))
          have hy1 : w4.cell? ⟨w2.heap.size, 1, none⟩ = some (.int .u8 2) := (hb4.cell (by simp)).trans (cell_of_row _ _ _ _ _ (0, 0) (heap_alloc_new _ _))
          refine wpAny_ready (rs := [1]) (by kernel_rfl) (by simp) ?_
          refine AllReady.cons rfl (fun K hK => ?_) (AllReady.nil)
          · go_simp
            refine hK _ _ ?_; clear hK K
            refine wpAny_world (p := Below w.heap.size w) ?_ (fun W hW => ?_)
            · first | exact hB4 | exact hB4.alloc (Nat.le_trans hz2 (Nat.le_trans (by first | exact hb4.size | simpa using hb4.size) (Nat.le_refl _))) _
            · exact wpAny_as (by kernel_rfl) (hT _ _ W hW)
  case tail =>
    intro v19 v21 W hW
    refine wpAny_ready (rs := [4]) (by kernel_rfl) (by simp) ?_
    refine AllReady.cons rfl (fun K hK => ?_) AllReady.nil
    go_simp
    refine hK _ _ ?_; clear hK K
    refine wpAny_ready (rs := [5]) (by kernel_rfl) (by simp) ?_
    refine AllReady.cons rfl (fun K hK => ?_) AllReady.nil
    go_simp
    refine hK _ _ ?_; clear hK K
    refine wpAny_ready (rs := [6]) (by kernel_rfl) (by simp) ?_
    refine AllReady.cons rfl (fun K hK => ?_) AllReady.nil
    go_simp
    refine hK _ _ ?_; clear hK K
    refine wpAny_ready (rs := [7]) (by kernel_rfl) (by simp) ?_
    refine AllReady.cons rfl (fun K hK => ?_) AllReady.nil
    go_simp
    refine hK _ _ ?_; clear hK K
    refine wpAny_ready (rs := [8]) (by kernel_rfl) (by simp) ?_
    refine AllReady.cons rfl (fun K hK => ?_) AllReady.nil
    go_simp
    refine hK _ _ ?_; clear hK K
    refine wpAny_ready (rs := [9]) (by kernel_rfl) (by simp) ?_
    refine AllReady.cons rfl (fun K hK => ?_) AllReady.nil
    go_simp
    refine hK _ _ ?_; clear hK K
    refine wpAny_ready (rs := [10]) (by kernel_rfl) (by simp) ?_
    refine AllReady.cons rfl (fun K hK => ?_) AllReady.nil
    go_simp
    refine hK _ _ ?_; clear hK K
    refine wpAny_ready (rs := [11]) (by kernel_rfl) (by simp) ?_
    refine AllReady.cons rfl (fun K hK => ?_) AllReady.nil
    go_simp
    refine hK _ _ ?_; clear hK K
    refine wpAny_ready (rs := [12]) (by kernel_rfl) (by simp) ?_
    refine AllReady.cons rfl (fun K hK => ?_) AllReady.nil
    go_simp
    refine hK _ _ ?_; clear hK K
    refine wpAny_ready (rs := [13]) (by kernel_rfl) (by simp) ?_
    refine AllReady.cons rfl (fun K hK => ?_) AllReady.nil
    go_simp
    refine hK _ _ ?_; clear hK K
    refine wpAny_ready (rs := [14]) (by kernel_rfl) (by simp) ?_
    refine AllReady.cons rfl (fun K hK => ?_) AllReady.nil
    go_simp
    refine hK _ _ ?_; clear hK K
    refine wpAny_ready (rs := [15]) (by kernel_rfl) (by simp) ?_
    refine AllReady.cons rfl (fun K hK => ?_) AllReady.nil
    go_simp
    refine hK _ _ ?_; clear hK K
    refine wpAny_ready (rs := [16]) (by kernel_rfl) (by simp) ?_
    refine AllReady.cons rfl (fun K hK => ?_) AllReady.nil
    go_simp
    refine hK _ _ ?_; clear hK K
    refine wpAny_ready (rs := [17]) (by kernel_rfl) (by simp) ?_
    refine AllReady.cons rfl (fun K hK => ?_) AllReady.nil
    go_simp
    refine hK _ _ ?_; clear hK K
    refine wpAny_ready (rs := [18]) (by kernel_rfl) (by simp) ?_
    refine AllReady.cons rfl (fun K hK => ?_) AllReady.nil
    go_simp
    refine hK _ _ ?_; clear hK K
    refine wpAny_ready (rs := [19]) (by kernel_rfl) (by simp) ?_
    refine AllReady.cons rfl (fun K hK => ?_) AllReady.nil
    go_simp
    refine hK _ _ ?_; clear hK K
    refine wpAny_ready (rs := [20]) (by kernel_rfl) (by simp) ?_
    refine AllReady.cons rfl (fun K hK => ?_) AllReady.nil
    go_simp
    refine hK _ _ ?_; clear hK K
    refine wpAny_ready (rs := [21]) (by kernel_rfl) (by simp) ?_
    refine AllReady.cons rfl (fun K hK => ?_) AllReady.nil
    go_simp
    refine hK _ _ ?_; clear hK K
    refine wpAny_ready (rs := [22]) (by kernel_rfl) (by simp) ?_
    refine AllReady.cons rfl (fun K hK => ?_) AllReady.nil
    go_simp
    go_wp2_with (go_at_call 63; refine Calls.mono (c4 _).out ?_; rintro e w5 ⟨rfl, rfl⟩)
    refine wpAny_ready (rs := [23]) (by kernel_rfl) (by simp) ?_
    refine AllReady.cons rfl (fun K hK => ?_) AllReady.nil
    go_simp
    refine hK _ _ ?_; clear hK K
    refine wpAny_ready (rs := [24]) (by kernel_rfl) (by simp) ?_
    refine AllReady.cons rfl (fun K hK => ?_) AllReady.nil
    go_simp
    refine hK _ _ ?_; clear hK K
    refine wpAny_ready (rs := [25]) (by kernel_rfl) (by simp) ?_
    refine AllReady.cons rfl (fun K hK => ?_) AllReady.nil
    go_simp
    refine hK _ _ ?_; clear hK K
    refine wpAny_ready (rs := [26]) (by kernel_rfl) (by simp) ?_
    refine AllReady.cons rfl (fun K hK => ?_) AllReady.nil
    go_simp
    refine hK _ _ ?_; clear hK K
    refine wpAny_ready (rs := [27]) (by kernel_rfl) (by simp) ?_
    refine AllReady.cons rfl (fun K hK => ?_) AllReady.nil
    go_simp
    refine hK _ _ ?_; clear hK K
    refine wpAny_done (by kernel_rfl) ?_ _
    go_outline
    go_wp2_with fail
    go_ret
    exact ⟨rfl, hW⟩
end Go.Proofs.Ytnnpgljmfjemnaa
