/-
  The flat stack: zeros on top.
-/
import Derived.Test.YtpladpmkpchndaaStackNil6
namespace Go.Proofs.Ytpladpmkpchndaa
open Go.RowKit
set_option linter.unusedSimpArgs false
set_option linter.unusedVariables false
attribute [local go_sem] run_store_cplx

theorem Stk.keep {w w' : World} {base : Nat} {e : TypeId} {size : Nat} {v : Value} {n : Nat} {xs : List Value} (h : Stk w base e size v n xs) (hb : Below w.heap.size w w') : Stk w' base e size v n xs := by
  rcases h with h | ⟨h0, b, rfl, h1, h2, h3⟩
  · exact .inl (own_keep h hb)
  · exact .inr ⟨h0, b, rfl, h1, Nat.lt_of_lt_of_le h2 hb.size, fun j u hj => (hb.cell (World.block_lt_of_cell? _ _ (h3 j u hj))).trans (h3 j u hj)⟩
set_option maxRecDepth 100000 in
set_option maxHeartbeats 1000000 in
theorem grow_box (g r q : Nat) (xs : List Value) (w : World) (hg : w.cell? ⟨g, 0, none⟩ = some (.slice (some ⟨r, 0, none⟩) 1 1)) (hf : w.frozen? ⟨g, 0, none⟩ = false) (hs : Stk w (g + 1) 27 3 (.slice (some ⟨r, 0, none⟩) 1 1) 1 xs) (hq0 : w.cell? ⟨q, 0, none⟩ = some (.int .i64 2)) :
    Calls Try.prog 21 #[.pointer (some ⟨g, 0, none⟩), .slice (some ⟨q, 0, none⟩) 1 1] w fun e w' => e = .returned (.int .i64 1) ∧ Pushed g 1 (xs ++ [.int .i64 2, .int .i64 0, .complex .f64 0 0]) w w' := by
  obtain ⟨i0, hi, hz0, hz1, hz2⟩ := info_parts info_val
  have hgl0 : g < w.heap.size := World.block_lt_of_cell? _ _ hg
  have hq : Hid (w.drew.cell? ⟨q, 0, none⟩ = some (.int .i64 2)) := Lib.hid hq0
  have hgr : Hid (some g ≠ (Value.slice (some ⟨r, 0, none⟩) 1 1).ownBlock) := Lib.hid fun e => by have := hs.lt g e.symm; omega
  have HN : Hid (∀ w4, Below w.drew.heap.size w.drew w4 → Below g w w4 ∧ Hid (Stk w4 (g + 1) 27 3 (.slice (some ⟨r, 0, none⟩) 1 1) 1 xs) ∧ Hid (w4.cell? ⟨g, 0, none⟩ = some (.slice (some ⟨r, 0, none⟩) 1 1)) ∧ Hid (w4.frozen? ⟨g, 0, none⟩ = false) ∧ Hid (g + 1 ≤ w4.heap.size)) := Lib.hid fun w4 hb4 => by
    have hb : Below w.heap.size w w4 := below_of_drewN (q := 1) hb4
    exact ⟨hb.mono (by omega), hs.keep hb, (hb.cell (p := ⟨g, 0, none⟩) hgl0).trans hg, (hb.frozen (p := ⟨g, 0, none⟩) hgl0).trans hf, by have := hb.size; show g + 1 ≤ w4.heap.size; omega⟩
  have hone : Hid (∀ u ∈ [Value.int .i64 2, .int .i64 0, .complex .f64 0 0], u.oneCell' = true) := Lib.hid (by
    intro u hu
    simp at hu
    rcases hu with rfl | rfl | rfl <;> rfl)
  clear hs hf hq0 hgl0
  go_enter Try.func21, Try.ntmps21
  go_wp2_with fail
  refine wp_region_held (S := fun W => Below g w W) (by kernel_rfl) ?_
  change wpAnyH _ _ _ _ _ _ _ _ (World.drew _)
  have hS0 : Below g w w.drew := (Below.refl _ _).drew
  refine wpAnyH_take (i := 0) (v := .pointer (some ⟨g, 0, none⟩)) rfl (by kernel_rfl) (by kernel_rfl) (by kernel_rfl) (fun _ _ _ h => h) (Or.inl ⟨by rfl, by intro W hW; go_simp; try (with_reducible rfl)⟩) hS0 ?_
  refine wpAnyH_take (i := 1) (v := .pointer (some ⟨g, 0, none⟩)) rfl (by kernel_rfl) (by kernel_rfl) (by kernel_rfl) (fun _ _ _ h => h) (Or.inl ⟨by rfl, by intro W hW; go_simp; try (with_reducible rfl)⟩) hS0 ?_
  refine wpAnyH_take (i := 2) (v := .pointer (some ⟨g, 0, none⟩)) rfl (by kernel_rfl) (by kernel_rfl) (by kernel_rfl) (fun _ _ _ h => h) (Or.inl ⟨by rfl, by intro W hW; go_simp; try (with_reducible rfl)⟩) hS0 ?_
  refine wpAnyH_take (i := 3) (v := .pointer (some ⟨g, 0, none⟩)) rfl (by kernel_rfl) (by kernel_rfl) (by kernel_rfl) (fun _ _ _ h => h) (Or.inl ⟨by rfl, by intro W hW; go_simp; try (with_reducible rfl)⟩) hS0 ?_
  refine wpAnyH_take (i := 5) (v := .slice (some ⟨q, 0, none⟩) 1 1) rfl (by kernel_rfl) (by kernel_rfl) (by kernel_rfl) (fun _ _ _ h => h) (Or.inl ⟨by rfl, by intro W hW; go_simp; try (with_reducible rfl)⟩) hS0 ?_
  refine wpAnyH_two (i := 4) (j := 6) (by kernel_rfl) rfl rfl (fun K hK => ?_) (fun K hK => ?_)
  · go_simp
    refine hK _ _ ⟨hS0, ?_⟩; clear hK K
    refine wpAnyH_one (i := 6) (by kernel_rfl) rfl (fun K hK => ?_)
    go_simp
    refine (row_cx q _ hq.out).mono ?_
    rintro e w4 ⟨r4, c4, rfl, own4, hb4⟩
    obtain ⟨hS4, HK4, hg4, hf4, hgl4⟩ := HN.out w4 hb4
    have hsrc := Lib.hid (own_src own4)
    have HS4 := Lib.hid hS4
    clear own4 hb4
    go_simp
    refine hK _ _ ⟨HS4.out, ?_⟩; clear hK K
    refine wpAnyH_one (i := 7) (by kernel_rfl) rfl (fun K hK => ?_)
    refine step_append_stk _ rfl (.tmp 17) (.tmp 19) 29 rfl (g + 1) 27 i0 (.agg #[.int .i64 0, .int .i64 0, .complex .f64 0 0]) 3 32 Try.underlying29 hi hz0 hz1 hz2 rfl (by decide) (.slice (some ⟨r, 0, none⟩) 1 1) 1 xs ?qq1 HK4.out ⟨r4, 0, none⟩ 1 c4 (by decide) [.int .i64 2, .int .i64 0, .complex .f64 0 0] ?qq2 hsrc.out hone.out (by unfold maxLen; omega) (by omega) hgl4.out (Nat.le_succ g) HS4.out ?_
    case qq1 => go_simp
    case qq2 => go_simp
    intro v' w5 hown hb5 hfar hsz5
    obtain ⟨A', c', rfl, _⟩ := own_form hown
    have g0 : w5.cell? ⟨g, 0, none⟩ = some (.slice (some ⟨r, 0, none⟩) 1 1) := (hfar ⟨g, 0, none⟩ (by have := hgl4.out; show g < _; omega) hgr.out).1.trans hg4.out
    have g1 : w5.frozen? ⟨g, 0, none⟩ = false := (hfar ⟨g, 0, none⟩ (by have := hgl4.out; show g < _; omega) hgr.out).2.trans hf4.out
    have HOW := Lib.hid hown
    have HB5 := Lib.hid hb5
    clear hown hb5 hfar
    refine hK _ _ ⟨HB5.out, ?_⟩; clear hK K
    refine wpAnyH_one (i := 8) (by kernel_rfl) rfl (fun K hK => ?_)
    go_simp
    refine hK _ _ ⟨HB5.out, ?_⟩; clear hK K
    refine wpAnyH_one (i := 9) (by kernel_rfl) rfl (fun K hK => ?_)
    go_simp
    refine hK _ _ ⟨HB5.out, ?_⟩; clear hK K
    refine wpAnyH_one (i := 10) (by kernel_rfl) rfl (fun K hK => ?_)
    go_simp
    refine hK _ _ ⟨(HB5.out.setCell (p := ⟨g, 0, none⟩) (Nat.le_refl g) _), ?_⟩; clear hK K
    refine wpAnyH_done (by kernel_rfl) ?_ _
    go_wp2_with fail
    go_ret
    exact ⟨rfl, A', c', by simp [go_sem, g0], by simpa [go_sem] using g1, own_set HOW.out (Nat.lt_succ_self g) _ _, HB5.out.setCell (p := ⟨g, 0, none⟩) (Nat.le_refl g) _⟩
  · go_simp
    refine (row_cx q _ hq.out).mono ?_
    rintro e w4 ⟨r4, c4, rfl, own4, hb4⟩
    obtain ⟨hS4, HK4, hg4, hf4, hgl4⟩ := HN.out w4 hb4
    have hsrc := Lib.hid (own_src own4)
    have HS4 := Lib.hid hS4
    clear own4 hb4
    go_simp
    refine hK _ _ ⟨HS4.out, ?_⟩; clear hK K
    refine wpAnyH_one (i := 4) (by kernel_rfl) rfl (fun K hK => ?_)
    have hg4' := hg4.out
    go_simp
    refine hK _ _ ⟨HS4.out, ?_⟩; clear hK K
    refine wpAnyH_one (i := 7) (by kernel_rfl) rfl (fun K hK => ?_)
    refine step_append_stk _ rfl (.tmp 17) (.tmp 19) 29 rfl (g + 1) 27 i0 (.agg #[.int .i64 0, .int .i64 0, .complex .f64 0 0]) 3 32 Try.underlying29 hi hz0 hz1 hz2 rfl (by decide) (.slice (some ⟨r, 0, none⟩) 1 1) 1 xs ?qq1 HK4.out ⟨r4, 0, none⟩ 1 c4 (by decide) [.int .i64 2, .int .i64 0, .complex .f64 0 0] ?qq2 hsrc.out hone.out (by unfold maxLen; omega) (by omega) hgl4.out (Nat.le_succ g) HS4.out ?_
    case qq1 => go_simp
    case qq2 => go_simp
    intro v' w5 hown hb5 hfar hsz5
    obtain ⟨A', c', rfl, _⟩ := own_form hown
    have g0 : w5.cell? ⟨g, 0, none⟩ = some (.slice (some ⟨r, 0, none⟩) 1 1) := (hfar ⟨g, 0, none⟩ (by have := hgl4.out; show g < _; omega) hgr.out).1.trans hg4.out
    have g1 : w5.frozen? ⟨g, 0, none⟩ = false := (hfar ⟨g, 0, none⟩ (by have := hgl4.out; show g < _; omega) hgr.out).2.trans hf4.out
    have HOW := Lib.hid hown
    have HB5 := Lib.hid hb5
    clear hown hb5 hfar
    refine hK _ _ ⟨HB5.out, ?_⟩; clear hK K
    refine wpAnyH_one (i := 8) (by kernel_rfl) rfl (fun K hK => ?_)
    go_simp
    refine hK _ _ ⟨HB5.out, ?_⟩; clear hK K
    refine wpAnyH_one (i := 9) (by kernel_rfl) rfl (fun K hK => ?_)
    go_simp
    refine hK _ _ ⟨HB5.out, ?_⟩; clear hK K
    refine wpAnyH_one (i := 10) (by kernel_rfl) rfl (fun K hK => ?_)
    go_simp
    refine hK _ _ ⟨(HB5.out.setCell (p := ⟨g, 0, none⟩) (Nat.le_refl g) _), ?_⟩; clear hK K
    refine wpAnyH_done (by kernel_rfl) ?_ _
    go_wp2_with fail
    go_ret
    exact ⟨rfl, A', c', by simp [go_sem, g0], by simpa [go_sem] using g1, own_set HOW.out (Nat.lt_succ_self g) _ _, HB5.out.setCell (p := ⟨g, 0, none⟩) (Nat.le_refl g) _⟩
end Go.Proofs.Ytpladpmkpchndaa
