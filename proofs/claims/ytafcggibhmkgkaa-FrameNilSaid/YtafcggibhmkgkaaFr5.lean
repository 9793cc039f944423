/-
  A frame: a value pushed on its empty stack.
-/
import Derived.Test.YtafcggibhmkgkaaFr4
import Derived.OrdersHeld
namespace Go.Proofs.Ytafcggibhmkgkaa
open Go.RowKit
set_option linter.unusedSimpArgs false
set_option linter.unusedVariables false
attribute [local go_sem] run_store_cplx
theorem wpAnyH_two {P : Program} {ops : Array Oper} {Q : Exit → Act → World → Prop} {md : Region.Mode} {S : World → Prop} {i j fuel : Nat} {oi oj : Oper} {listed : Array Bool} {a : Act} {w : World}
    (hr : Region.ready md ops listed = [i, j]) (hi : ops[i]? = some oi) (hj : ops[j]? = some oj)
    (h : ∀ K' : Act → World → Prop, (∀ a w, S w ∧ wpAnyH P md ops Q S fuel (listed.setIfInBounds i true) a w → K' a w) → if Region.wanted oi (yielded ops a.tmps) = true then Oper.wp P oi a w K' Q else K' (a.put oi.dst undef) w)
    (k : ∀ K' : Act → World → Prop, (∀ a w, S w ∧ wpAnyH P md ops Q S fuel (listed.setIfInBounds j true) a w → K' a w) → if Region.wanted oj (yielded ops a.tmps) = true then Oper.wp P oj a w K' Q else K' (a.put oj.dst undef) w) :
    wpAnyH P md ops Q S (fuel + 1) listed a w :=
  wpAnyH_all hr (by simp) (fun x hx => by
    simp only [List.mem_cons, List.not_mem_nil, or_false] at hx
    rcases hx with rfl | rfl
    · exact wpOp_step hi h
    · exact wpOp_step hj k)
/-- Behind a push on an empty stack. -/
def Pushed1 (g : Nat) (vk vn : Int) (vx vy : Nat) (w w' : World) : Prop := ∃ s c, Kp (fun k => k = g) w w' ∧ w'.cell? ⟨g, 14, none⟩ = some (.slice (some ⟨s, 0, none⟩) 1 c) ∧ (∀ i, i ≠ 14 → w'.cell? ⟨g, i, none⟩ = w.cell? ⟨g, i, none⟩) ∧ (∀ i, w'.frozen? ⟨g, i, none⟩ = w.frozen? ⟨g, i, none⟩) ∧
  w'.cell? ⟨s, 0, none⟩ = some (.int .i64 vk) ∧ w'.cell? ⟨s, 1, none⟩ = some (.int .i64 vn) ∧ w'.cell? ⟨s, 2, none⟩ = some (.complex .f64 vx vy) ∧ w.heap.size ≤ s ∧ 1 ≤ c ∧ c ≤ 9223372036854775807
theorem pushed_fin {w W W' : World} {g : Nat} {A' : Option Addr} {c' : Nat} {vk vn : Int} {vx vy : Nat} (hg : w.cell? ⟨g, 14, none⟩ = some (.slice none 0 0)) (hf : w.frozen? ⟨g, 14, none⟩ = false) (hW : Kp (fun _ => False) w W) (hown : W'.ownsRow W.heap.size 27 3 (.slice A' (0 + 1) c') (0 + 1) ([] ++ [.int .i64 vk, .int .i64 vn, .complex .f64 vx vy])) (hk : Kp (fun k => none = some (⟨k, 0, none⟩ : Addr)) W W') :
    Pushed1 g vk vn vx vy w (W'.setCell ⟨g, 14, none⟩ (.slice A' (0 + 1) c')) ∧ W'.cell? ⟨g, 14, none⟩ = some (.slice none 0 0) ∧ W'.frozen? ⟨g, 14, none⟩ = false := by
  have hk9 : Kp (fun _ => False) w W' := hW.trans' hk fun k _ h => h.elim id fun h => by cases h
  have hlt : g < w.heap.size := World.block_lt_of_cell? _ _ hg
  rw [Nat.zero_add, List.nil_append] at hown
  have c5 : W'.cell? ⟨g, 14, none⟩ = some (.slice none 0 0) := hk9.cellv hg id
  have f5 : W'.frozen? ⟨g, 14, none⟩ = false := (hk9.frozen hlt id).trans hf
  obtain ⟨s, rfl⟩ : ∃ s, A' = some ⟨s, 0, none⟩ := by
    rcases hown.2 with ⟨_, h0⟩ | ⟨g', cap', cur, hv, _⟩
    · omega
    · simp only [Value.slice.injEq, true_and] at hv
      exact ⟨g', hv.1⟩
  have hc : 1 ≤ c' ∧ c' ≤ maxLen := by
    rcases hown.2 with ⟨_, h0⟩ | ⟨g', cap', cur, hv, _, _, h3, h4, _⟩
    · omega
    · simp only [Value.slice.injEq, true_and] at hv
      obtain ⟨_, rfl⟩ := hv
      exact ⟨h3, h4⟩
  have hs := hown.lt s rfl
  have hsw : w.heap.size ≤ s := Nat.le_trans hW.size hs.1
  have hne : s ≠ g := by omega
  unfold maxLen at hc
  refine ⟨⟨s, c', ?_, ?_, ?_, ?_, ?_, ?_, ?_, hsw, hc.1, by omega⟩, c5, f5⟩
  · exact Kp.setCell (S := fun k => k = g) (hk9.mono fun _ _ h => h.elim) (p := ⟨g, 14, none⟩) (fun _ => rfl) _
  · rw [Nat.zero_add]; simp [go_sem, c5]
  · intro i hi
    rw [World.cell?_setCell_other _ _ _ _ (by simp; try omega)]
    exact hk9.cell hlt id
  · intro i
    rw [World.frozen?_setCell]
    exact hk9.frozen hlt id
  · rw [World.cell?_setCell_far _ _ _ _ (by exact Ne.symm hne)]; exact hown.cellAt 0 (by omega)
  · rw [World.cell?_setCell_far _ _ _ _ (by exact Ne.symm hne)]; exact hown.cellAt 1 (by omega)
  · rw [World.cell?_setCell_far _ _ _ _ (by exact Ne.symm hne)]; exact hown.cellAt 2 (by omega)
set_option maxRecDepth 100000 in
set_option maxHeartbeats 4000000 in
theorem pile_push (g : Nat) (vk vn : Int) (vx vy : Nat) (w : World) (h : w.cell? ⟨g, 14, none⟩ = some (.slice none 0 0)) (hf : w.frozen? ⟨g, 14, none⟩ = false) :
    Calls Try.prog 24 #[.pointer (some ⟨g, 14, none⟩), vV vk vn vx vy] w fun e w' => (∃ u, e = .returned u) ∧ Pushed1 g vk vn vx vy w w' := by
  obtain ⟨i0, hi, hz0, hz1, hz2⟩ := info_parts info_val
  obtain ⟨w1, hw1⟩ : ∃ w1, w.alloc (.cells #[.int .i64 vk, .int .i64 vn, .complex .f64 vx vy] 27) = w1 := ⟨_, rfl⟩
  have hk1 : Kp (fun _ => False) w w1 := by rw [← hw1]; exact (Kp.refl _ _).alloc _
  have hlt : g < w.heap.size := World.block_lt_of_cell? _ _ h
  have z : ∀ j u, #[Value.int .i64 vk, .int .i64 vn, .complex .f64 vx vy][j]? = some u → w1.cell? ⟨w.heap.size, j, none⟩ = some u := fun j u hu => by
    rw [← hw1]
    exact (new_cells (Below.refl _ _) j u hu).1
  have hsz1 : w1.heap.size = w.heap.size + 1 := by rw [← hw1]; simp
  have HQ : Hid (∀ W : World, Kp (fun k => k = g) w1 W → W.cell? ⟨w.heap.size, 0, none⟩ = some (.int .i64 vk) ∧ W.cell? ⟨w.heap.size, 1, none⟩ = some (.int .i64 vn) ∧ W.cell? ⟨w.heap.size, 2, none⟩ = some (.complex .f64 vx vy)) := Lib.hid fun W hW => by
    have nb : ¬ w.heap.size = g := by omega
    exact ⟨hW.cellv (z 0 _ rfl) nb, hW.cellv (z 1 _ rfl) nb, hW.cellv (z 2 _ rfl) nb⟩
  have hk4 : Kp (fun _ => False) w1 (w1.drew.alloc (.cells #[.int .i64 vk, .int .i64 vn, .complex .f64 vx vy] 27)) := ((Kp.refl _ _).drew).alloc _
  have g0 : w1.cell? ⟨g, 14, none⟩ = some (.slice none 0 0) := hk1.cellv h id
  have g4 : (w1.drew.alloc (.cells #[.int .i64 vk, .int .i64 vn, .complex .f64 vx vy] 27)).cell? ⟨g, 14, none⟩ = some (.slice none 0 0) := hk4.cellv g0 id
  have HF : Hid (∀ (W' : World) (A' : Option Addr) (c' : Nat), W'.ownsRow (w1.drew.alloc (.cells #[.int .i64 vk, .int .i64 vn, .complex .f64 vx vy] 27)).heap.size 27 3 (.slice A' (0 + 1) c') (0 + 1) ([] ++ [.int .i64 vk, .int .i64 vn, .complex .f64 vx vy]) → Kp (fun k => none = some (⟨k, 0, none⟩ : Addr)) (w1.drew.alloc (.cells #[.int .i64 vk, .int .i64 vn, .complex .f64 vx vy] 27)) W' → Pushed1 g vk vn vx vy w (W'.setCell ⟨g, 14, none⟩ (.slice A' (0 + 1) c')) ∧ W'.cell? ⟨g, 14, none⟩ = some (.slice none 0 0) ∧ W'.frozen? ⟨g, 14, none⟩ = false) := Lib.hid fun W' A' c' hown hk => pushed_fin h hf (hk1.trans hk4) hown hk
  have hsrc := Lib.hid (src_v w1.drew vk vn vx vy)
  have hone := Lib.hid (one_v vk vn vx vy)
  have hrow : Hid (RowF (w1.drew.alloc (.cells #[.int .i64 vk, .int .i64 vn, .complex .f64 vx vy] 27)) (w1.drew.alloc (.cells #[.int .i64 vk, .int .i64 vn, .complex .f64 vx vy] 27)).heap.size 27 3 none 0 0 []) := Lib.hid (RowF.ofOwn (World.ownsRow_nil _ _ _ _))
  have hS0 : Kp (fun k => k = g) w1 w1.drew := (Kp.refl _ _).drew
  have hS4 : Kp (fun k => k = g) w1 (w1.drew.alloc (.cells #[.int .i64 vk, .int .i64 vn, .complex .f64 vx vy] 27)) := hk4.mono fun _ _ h => h.elim
  have HE := Lib.hid hw1
  clear h hf z hk1 hk4 hw1
  go_enter Try.func24, Try.ntmps24
  go_wp2_with fail
  rw [HE.out]
  refine wp_region_held (S := fun W => Kp (fun k => k = g) w1 W) (by kernel_rfl) ?_
  change wpAnyH _ _ _ _ _ _ _ _ (World.drew _)
  refine wpAnyH_take (i := 0) (v := .pointer (some ⟨g, 14, none⟩)) rfl (by kernel_rfl) (by kernel_rfl) (by kernel_rfl) (fun _ _ _ h => h) (Or.inl ⟨by rfl, by intro W hW; go_simp; try (first | (with_reducible rfl) | omega)⟩) hS0 ?_
  refine wpAnyH_take (i := 1) (v := .pointer (some ⟨g, 14, none⟩)) rfl (by kernel_rfl) (by kernel_rfl) (by kernel_rfl) (fun _ _ _ h => h) (Or.inl ⟨by rfl, by intro W hW; go_simp; try (first | (with_reducible rfl) | omega)⟩) hS0 ?_
  refine wpAnyH_take (i := 2) (v := .pointer (some ⟨g, 14, none⟩)) rfl (by kernel_rfl) (by kernel_rfl) (by kernel_rfl) (fun _ _ _ h => h) (Or.inl ⟨by rfl, by intro W hW; go_simp; try (first | (with_reducible rfl) | omega)⟩) hS0 ?_
  refine wpAnyH_take (i := 3) (v := .pointer (some ⟨g, 14, none⟩)) rfl (by kernel_rfl) (by kernel_rfl) (by kernel_rfl) (fun _ _ _ h => h) (Or.inl ⟨by rfl, by intro W hW; go_simp; try (first | (with_reducible rfl) | omega)⟩) hS0 ?_
  refine wpAnyH_take (i := 5) (v := vV vk vn vx vy) rfl (by kernel_rfl) (by kernel_rfl) (by kernel_rfl) (fun _ _ _ h => h) (Or.inl ⟨by rfl, by intro W hW; obtain ⟨g0, g1, g2⟩ := HQ.out W hW; go_simp; try (first | (with_reducible rfl) | omega)⟩) hS0 ?_
  refine wpAnyH_two (i := 4) (j := 6) (by kernel_rfl) rfl rfl (fun K hK => ?_) (fun K hK => ?_)
  · go_simp
    refine hK _ _ ⟨hS0, ?_⟩; clear hK K
    refine wpAnyH_one (i := 6) (by kernel_rfl) rfl (fun K hK => ?_)
    go_simp
    refine hK _ _ ⟨hS4, ?_⟩; clear hK K
    refine wpAnyH_one (i := 7) (by kernel_rfl) rfl (fun K hK => ?_)
    refine step_append_rowF _ rfl (.tmp 8) (.tmp 10) 31 rfl _ 27 i0 (.agg #[.int .i64 0, .int .i64 0, .complex .f64 0 0]) 3 32 Try.underlying31 hi hz0 hz1 hz2 rfl (by decide) none 0 0 [] ?qq1 hrow.out ⟨w1.heap.size, 0, none⟩ 1 1 (by decide) [.int .i64 vk, .int .i64 vn, .complex .f64 vx vy] ?qq2 hsrc.out hone.out (by unfold maxLen; omega) (by omega) (Nat.le_refl _) ?_
    case qq1 => go_simp
    case qq2 => go_simp
    intro A' c' W' hown hkA hA
    have F := Lib.hid (HF.out W' A' c' hown hkA)
    have e0 := F.out.2.1
    have e1 := F.out.2.2
    have hS5 : Kp (fun k => k = g) w1 W' := hS4.trans (hkA.mono fun j _ e => by cases e)
    clear hown hkA hA
    refine hK _ _ ⟨hS5, ?_⟩; clear hK K
    refine wpAnyH_one (i := 8) (by kernel_rfl) rfl (fun K hK => ?_)
    go_simp
    refine hK _ _ ⟨hS5, ?_⟩; clear hK K
    refine wpAnyH_one (i := 9) (by kernel_rfl) rfl (fun K hK => ?_)
    go_simp
    refine hK _ _ ⟨hS5, ?_⟩; clear hK K
    refine wpAnyH_one (i := 10) (by kernel_rfl) rfl (fun K hK => ?_)
    go_simp
    refine hK _ _ ⟨(hS5.setCell (p := ⟨g, 14, none⟩) (fun _ => rfl) _), ?_⟩; clear hK K
    refine wpAnyH_done (by kernel_rfl) ?_ _
    go_wp2_with fail
    go_end0
    exact ⟨⟨_, rfl⟩, F.out.1⟩
  · go_simp
    refine hK _ _ ⟨hS4, ?_⟩; clear hK K
    refine wpAnyH_one (i := 4) (by kernel_rfl) rfl (fun K hK => ?_)
    go_simp
    refine hK _ _ ⟨hS4, ?_⟩; clear hK K
    refine wpAnyH_one (i := 7) (by kernel_rfl) rfl (fun K hK => ?_)
    refine step_append_rowF _ rfl (.tmp 8) (.tmp 10) 31 rfl _ 27 i0 (.agg #[.int .i64 0, .int .i64 0, .complex .f64 0 0]) 3 32 Try.underlying31 hi hz0 hz1 hz2 rfl (by decide) none 0 0 [] ?qq1 hrow.out ⟨w1.heap.size, 0, none⟩ 1 1 (by decide) [.int .i64 vk, .int .i64 vn, .complex .f64 vx vy] ?qq2 hsrc.out hone.out (by unfold maxLen; omega) (by omega) (Nat.le_refl _) ?_
    case qq1 => go_simp
    case qq2 => go_simp
    intro A' c' W' hown hkA hA
    have F := Lib.hid (HF.out W' A' c' hown hkA)
    have e0 := F.out.2.1
    have e1 := F.out.2.2
    have hS5 : Kp (fun k => k = g) w1 W' := hS4.trans (hkA.mono fun j _ e => by cases e)
    clear hown hkA hA
    refine hK _ _ ⟨hS5, ?_⟩; clear hK K
    refine wpAnyH_one (i := 8) (by kernel_rfl) rfl (fun K hK => ?_)
    go_simp
    refine hK _ _ ⟨hS5, ?_⟩; clear hK K
    refine wpAnyH_one (i := 9) (by kernel_rfl) rfl (fun K hK => ?_)
    go_simp
    refine hK _ _ ⟨hS5, ?_⟩; clear hK K
    refine wpAnyH_one (i := 10) (by kernel_rfl) rfl (fun K hK => ?_)
    go_simp
    refine hK _ _ ⟨(hS5.setCell (p := ⟨g, 14, none⟩) (fun _ => rfl) _), ?_⟩; clear hK K
    refine wpAnyH_done (by kernel_rfl) ?_ _
    go_wp2_with fail
    go_end0
    exact ⟨⟨_, rfl⟩, F.out.1⟩
set_option maxRecDepth 100000 in
set_option maxHeartbeats 2000000 in
theorem f_push (g : Nat) (vk vn : Int) (vx vy : Nat) (w : World) (h : w.cell? ⟨g, 14, none⟩ = some (.slice none 0 0)) (hf : w.frozen? ⟨g, 14, none⟩ = false) :
    Calls Try.prog 4 #[.pointer (some ⟨g, 0, none⟩), vV vk vn vx vy] w fun e w' => (∃ u, e = .returned u) ∧ Pushed1 g vk vn vx vy w w' := by
  have hlt : g < w.heap.size := World.block_lt_of_cell? _ _ h
  have hk1 : Kp (fun _ => False) w (w.alloc (.cells #[.int .i64 vk, .int .i64 vn, .complex .f64 vx vy] 27)).drew := ((Kp.refl _ _).alloc _).drew
  have c1 := Lib.hid (pile_push g vk vn vx vy (w.alloc (.cells #[.int .i64 vk, .int .i64 vn, .complex .f64 vx vy] 27)).drew (hk1.cellv h id) ((hk1.frozen hlt id).trans hf))
  have HP : Hid (∀ w', Pushed1 g vk vn vx vy (w.alloc (.cells #[.int .i64 vk, .int .i64 vn, .complex .f64 vx vy] 27)).drew w' → Pushed1 g vk vn vx vy w w') := Lib.hid (by
    rintro w' ⟨s, c, k, h1, h2, h3, h4, h5, h6, h7, h8⟩
    exact ⟨s, c, (hk1.mono fun _ _ h => h.elim).trans k, h1, fun i hi => (h2 i hi).trans (hk1.cell hlt id), fun i => (h3 i).trans (hk1.frozen hlt id), h4, h5, h6, Nat.le_trans hk1.size h7, h8⟩)
  clear h hf hk1
  go_enter Try.func4, Try.ntmps4
  go_wp2_with fail
  go_region_with (first | (go_at_call 24; refine c1.out.mono ?_; rintro e w2 ⟨⟨u, rfl⟩, hp⟩))
  all_goals
    have HP2 := Lib.hid (HP.out _ hp)
    clear hp
    go_wp2_with fail
    go_end0
    exact ⟨⟨_, rfl⟩, HP2.out⟩
end Go.Proofs.Ytafcggibhmkgkaa
