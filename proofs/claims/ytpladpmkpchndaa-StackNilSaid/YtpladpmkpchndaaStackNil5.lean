/-
  The flat stack: one more on top.
-/
import Derived.Test.YtpladpmkpchndaaStackNil4
import Derived.Deep.RegionHeld
namespace Go.Proofs.Ytpladpmkpchndaa
open Go.RowKit
set_option linter.unusedSimpArgs false
set_option linter.unusedVariables false
attribute [local go_sem] run_store_cplx

/-- What is held in Push's region: what lies below the stack's own variable, and the value's box. -/
structure VS (w1 : World) (vb g : Nat) (kd nn : Int) (x y : Nat) (W : World) : Prop where
  bw : Below g w1 W
  v0 : W.cell? ⟨vb, 0, none⟩ = some (.int .i64 kd)
  v1 : W.cell? ⟨vb, 1, none⟩ = some (.int .i64 nn)
  v2 : W.cell? ⟨vb, 2, none⟩ = some (.complex .f64 x y)
theorem VS.drew {w1 : World} {vb g : Nat} {kd nn : Int} {x y : Nat} {W : World} (h : VS w1 vb g kd nn x y W) : VS w1 vb g kd nn x y W.drew := ⟨h.bw.drew, h.v0, h.v1, h.v2⟩
theorem VS.alloc {w1 : World} {vb g : Nat} {kd nn : Int} {x y : Nat} {W : World} (h : VS w1 vb g kd nn x y W) (hg : g ≤ W.heap.size) (o : Obj) : VS w1 vb g kd nn x y (W.alloc o) :=
  ⟨h.bw.alloc hg o, (World.cell?_alloc_lt _ _ _ (World.block_lt_of_cell? _ _ h.v0)).trans h.v0, (World.cell?_alloc_lt _ _ _ (World.block_lt_of_cell? _ _ h.v1)).trans h.v1, (World.cell?_alloc_lt _ _ _ (World.block_lt_of_cell? _ _ h.v2)).trans h.v2⟩
theorem VS.put {w1 : World} {vb g : Nat} {kd nn : Int} {x y : Nat} {W : World} (h : VS w1 vb g kd nn x y W) (hv : vb ≠ g) (v : Value) : VS w1 vb g kd nn x y (W.setCell ⟨g, 0, none⟩ v) :=
  ⟨h.bw.setCell (p := ⟨g, 0, none⟩) (Nat.le_refl g) v, (World.cell?_setCell_far _ _ _ _ (Ne.symm hv)).trans h.v0, (World.cell?_setCell_far _ _ _ _ (Ne.symm hv)).trans h.v1, (World.cell?_setCell_far _ _ _ _ (Ne.symm hv)).trans h.v2⟩
theorem wpAnyH_two {P : Program} {ops : Array Oper} {Q : Exit → Act → World → Prop} {md : Region.Mode} {S : World → Prop} {i j fuel : Nat} {oi oj : Oper} {listed : Array Bool} {a : Act} {w : World}
    (hr : Region.ready md ops listed = [i, j]) (hi : ops[i]? = some oi) (hj : ops[j]? = some oj)
    (h : ∀ K' : Act → World → Prop, (∀ a w, S w ∧ wpAnyH P md ops Q S fuel (listed.setIfInBounds i true) a w → K' a w) → if Region.wanted oi (yielded ops a.tmps) = true then Oper.wp P oi a w K' Q else K' (a.put oi.dst undef) w)
    (k : ∀ K' : Act → World → Prop, (∀ a w, S w ∧ wpAnyH P md ops Q S fuel (listed.setIfInBounds j true) a w → K' a w) → if Region.wanted oj (yielded ops a.tmps) = true then Oper.wp P oj a w K' Q else K' (a.put oj.dst undef) w) :
    wpAnyH P md ops Q S (fuel + 1) listed a w :=
  wpAnyH_all hr (by simp) (fun x hx => by
    simp only [List.mem_cons, List.not_mem_nil, or_false] at hx
    rcases hx with rfl | rfl
    · exact wpOp_step hi h
    · exact wpOp_step hj k)
def Pushed (g n : Nat) (xs : List Value) (w w' : World) : Prop := ∃ A' c', w'.cell? ⟨g, 0, none⟩ = some (.slice A' (n + 1) c') ∧ w'.frozen? ⟨g, 0, none⟩ = false ∧ w'.ownsRow (g + 1) 27 3 (.slice A' (n + 1) c') (n + 1) xs ∧ Below g w w'

set_option maxRecDepth 100000 in
set_option maxHeartbeats 1000000 in
theorem push_box (g n c : Nat) (A : Option Addr) (xs : List Value) (kd nn : Int) (x y : Nat) (w : World) (hg : w.cell? ⟨g, 0, none⟩ = some (.slice A n c)) (hf : w.frozen? ⟨g, 0, none⟩ = false) (hs : Stk w (g + 1) 27 3 (.slice A n c) n xs) (hn : n ≤ 1000) :
    Calls Try.prog 15 #[.pointer (some ⟨g, 0, none⟩), .agg #[.int .i64 kd, .int .i64 nn, .complex .f64 x y]] w fun e w' => (∃ v, e = .returned v) ∧ Pushed g n (xs ++ [.int .i64 kd, .int .i64 nn, .complex .f64 x y]) w w' := by
  obtain ⟨i0, hi, hz0, hz1, hz2⟩ := info_parts info_val
  have hgl0 := World.block_lt_of_cell? _ _ hg
  have hgl0 : g < w.heap.size := hgl0
  go_enter Try.func15, Try.ntmps15
  go_wp2_with fail
  obtain ⟨w1, hw⟩ : ∃ w1, w.alloc (.cells #[.int .i64 kd, .int .i64 nn, .complex .f64 x y] 27) = w1 := ⟨_, rfl⟩
  obtain ⟨vb, hvb⟩ : ∃ vb, w.heap.size = vb := ⟨_, rfl⟩
  have hsz : w1.heap.size = vb + 1 := by rw [← hw, ← hvb]; simp
  have HS : Hid (VS w1 vb g kd nn x y w1) := Lib.hid ⟨Below.refl _ _, by rw [← hw, ← hvb]; exact cell_of_row _ w.heap.size 0 _ _ (0, 0) (heap_alloc_new w _), by rw [← hw, ← hvb]; exact cell_of_row _ w.heap.size 1 _ _ (0, 0) (heap_alloc_new w _), by rw [← hw, ← hvb]; exact cell_of_row _ w.heap.size 2 _ _ (0, 0) (heap_alloc_new w _)⟩
  have hg1 : w1.cell? ⟨g, 0, none⟩ = some (.slice A n c) := by rw [← hw]; exact (World.cell?_alloc_lt _ _ _ hgl0).trans hg
  have hf1 : w1.frozen? ⟨g, 0, none⟩ = false := by rw [← hw]; have := ((Below.refl (g + 1) w).alloc (o := .cells #[.int .i64 kd, .int .i64 nn, .complex .f64 x y] 27) (by omega)).frozen (p := ⟨g, 0, none⟩) (Nat.lt_succ_self g); rw [this]; exact hf
  have HB : Hid (Below g w w1) := Lib.hid (by rw [← hw]; exact (Below.refl _ _).alloc (by omega) _)
  have hgl : Hid (g ≤ w1.drew.heap.size) := Lib.hid (by show g ≤ w1.heap.size; omega)
  have hvg : Hid (vb ≠ g) := Lib.hid (by omega)
  have hst1 : Stk w1 (g + 1) 27 3 (.slice A n c) n xs := by rw [← hw]; exact hs.alloc _
  have hnb : ∀ k, (Value.slice A n c).ownBlock = some k → g + 1 ≤ k ∧ k < vb := fun k hk => by have := hs.lt k hk; omega
  have HK : Hid (Stk (w1.drew.alloc (.cells #[.int .i64 kd, .int .i64 nn, .complex .f64 x y] 27)) (g + 1) 27 3 (.slice A n c) n xs) := Lib.hid (by
    have h1 : Stk w1.drew (g + 1) 27 3 (.slice A n c) n xs := hst1
    exact h1.alloc _)
  have hgl2 : Hid (g + 1 ≤ (w1.drew.alloc (.cells #[.int .i64 kd, .int .i64 nn, .complex .f64 x y] 27)).heap.size) := Lib.hid (by simp; omega)
  have hsrc : Hid (SrcCells (w1.drew.alloc (.cells #[.int .i64 kd, .int .i64 nn, .complex .f64 x y] 27)) (some ⟨w1.heap.size, 0, none⟩) 1 3 [.int .i64 kd, .int .i64 nn, .complex .f64 x y]) :=
    Lib.hid (own_src (World.ownsRow_lit (base := w1.heap.size) (e := 27) (size := 3) w1.drew #[.int .i64 kd, .int .i64 nn, .complex .f64 x y] 1 (Nat.le_refl _) (by unfold maxLen; omega) rfl))
  have hone : Hid (∀ u ∈ [Value.int .i64 kd, .int .i64 nn, .complex .f64 x y], u.oneCell' = true) := Lib.hid (by
    intro u hu
    simp at hu
    rcases hu with rfl | rfl | rfl <;> rfl)
  have HF : Hid (∀ w3 : World, Below g w1 w3 → (∀ p : Addr, p.block < (w1.drew.alloc (.cells #[.int .i64 kd, .int .i64 nn, .complex .f64 x y] 27)).heap.size → some p.block ≠ (Value.slice A n c).ownBlock → w3.cell? p = (w1.drew.alloc (.cells #[.int .i64 kd, .int .i64 nn, .complex .f64 x y] 27)).cell? p ∧ w3.frozen? p = (w1.drew.alloc (.cells #[.int .i64 kd, .int .i64 nn, .complex .f64 x y] 27)).frozen? p) → VS w1 vb g kd nn x y w3) := Lib.hid fun w3 hb3 hfar => by
    have hS := (HS.out.drew).alloc hgl.out (.cells #[.int .i64 kd, .int .i64 nn, .complex .f64 x y] 27)
    have hlt : vb < (w1.drew.alloc (.cells #[.int .i64 kd, .int .i64 nn, .complex .f64 x y] 27)).heap.size := by simp; omega
    have hne : some vb ≠ (Value.slice A n c).ownBlock := fun e => by have := hnb vb e.symm; omega
    exact ⟨hb3, (hfar ⟨vb, 0, none⟩ hlt hne).1.trans hS.v0, (hfar ⟨vb, 1, none⟩ hlt hne).1.trans hS.v1, (hfar ⟨vb, 2, none⟩ hlt hne).1.trans hS.v2⟩
  have HG : Hid (∀ w3 : World, (∀ p : Addr, p.block < (w1.drew.alloc (.cells #[.int .i64 kd, .int .i64 nn, .complex .f64 x y] 27)).heap.size → some p.block ≠ (Value.slice A n c).ownBlock → w3.cell? p = (w1.drew.alloc (.cells #[.int .i64 kd, .int .i64 nn, .complex .f64 x y] 27)).cell? p ∧ w3.frozen? p = (w1.drew.alloc (.cells #[.int .i64 kd, .int .i64 nn, .complex .f64 x y] 27)).frozen? p) → w3.cell? ⟨g, 0, none⟩ = some (.slice A n c) ∧ w3.frozen? ⟨g, 0, none⟩ = false) := Lib.hid fun w3 hfar => by
    have hlt : g < (w1.drew.alloc (.cells #[.int .i64 kd, .int .i64 nn, .complex .f64 x y] 27)).heap.size := by simp; omega
    have hne : some g ≠ (Value.slice A n c).ownBlock := fun e => by have := hnb g e.symm; omega
    have h1 := hfar ⟨g, 0, none⟩ hlt hne
    refine ⟨h1.1.trans ((World.cell?_alloc_lt _ _ _ (by show g < w1.heap.size; omega)).trans hg1), h1.2.trans ?_⟩
    have := ((Below.refl (g + 1) w1.drew).alloc (o := .cells #[.int .i64 kd, .int .i64 nn, .complex .f64 x y] 27) (by show g + 1 ≤ w1.heap.size; omega)).frozen (p := ⟨g, 0, none⟩) (Nat.lt_succ_self g)
    rw [this]
    exact hf1
  have hg2 : (w1.alloc (.cells #[.int .i64 kd, .int .i64 nn, .complex .f64 x y] 27)).cell? ⟨g, 0, none⟩ = some (.slice A n c) := (World.cell?_alloc_lt _ _ _ (by show g < w1.heap.size; omega)).trans hg1
  rw [hw, hvb]
  clear hw hg hf hs hgl0 hst1 hnb hsz hvb
  refine wp_region_held (S := fun W => VS w1 vb g kd nn x y W) (by kernel_rfl) ?_
  change wpAnyH _ _ _ _ _ _ _ _ (World.drew _)
  have hS0 : VS w1 vb g kd nn x y w1.drew := HS.out.drew
  refine wpAnyH_take (i := 0) (v := .pointer (some ⟨g, 0, none⟩)) rfl (by kernel_rfl) (by kernel_rfl) (by kernel_rfl) (fun _ _ _ h => h) (Or.inl ⟨by rfl, by intro W hW; go_simp; try (with_reducible rfl)⟩) hS0 ?_
  refine wpAnyH_take (i := 1) (v := .pointer (some ⟨g, 0, none⟩)) rfl (by kernel_rfl) (by kernel_rfl) (by kernel_rfl) (fun _ _ _ h => h) (Or.inl ⟨by rfl, by intro W hW; go_simp; try (with_reducible rfl)⟩) hS0 ?_
  refine wpAnyH_take (i := 2) (v := .pointer (some ⟨g, 0, none⟩)) rfl (by kernel_rfl) (by kernel_rfl) (by kernel_rfl) (fun _ _ _ h => h) (Or.inl ⟨by rfl, by intro W hW; go_simp; try (with_reducible rfl)⟩) hS0 ?_
  refine wpAnyH_take (i := 3) (v := .pointer (some ⟨g, 0, none⟩)) rfl (by kernel_rfl) (by kernel_rfl) (by kernel_rfl) (fun _ _ _ h => h) (Or.inl ⟨by rfl, by intro W hW; go_simp; try (with_reducible rfl)⟩) hS0 ?_
  refine wpAnyH_take (i := 5) (v := .agg #[.int .i64 kd, .int .i64 nn, .complex .f64 x y]) rfl (by kernel_rfl) (by kernel_rfl) (by kernel_rfl) (fun _ _ _ h => h) (Or.inl ⟨by rfl, by intro W hW; have e0 := hW.v0; have e1 := hW.v1; have e2 := hW.v2; go_simp; try (with_reducible rfl)⟩) hS0 ?_
  refine wpAnyH_two (i := 4) (j := 6) (by kernel_rfl) rfl rfl (fun K hK => ?_) (fun K hK => ?_)
  · go_simp
    refine hK _ _ ⟨hS0, ?_⟩; clear hK K
    refine wpAnyH_one (i := 6) (by kernel_rfl) rfl (fun K hK => ?_)
    go_simp
    refine hK _ _ ⟨(hS0.alloc hgl.out _), ?_⟩; clear hK K
    refine wpAnyH_one (i := 7) (by kernel_rfl) rfl (fun K hK => ?_)
    refine step_append_stk _ rfl (.tmp 10) (.tmp 12) 29 rfl (g + 1) 27 i0 (.agg #[.int .i64 0, .int .i64 0, .complex .f64 0 0]) 3 32 Try.underlying29 hi hz0 hz1 hz2 rfl (by decide) (.slice A n c) n xs ?qq1 HK.out ⟨w1.heap.size, 0, none⟩ 1 1 (by decide) [.int .i64 kd, .int .i64 nn, .complex .f64 x y] ?qq2 hsrc.out hone.out (by unfold maxLen; omega) (by omega) hgl2.out (Nat.le_succ g) (hS0.alloc hgl.out _).bw ?_
    case qq1 => go_simp
    case qq2 => go_simp
    intro v' w3 hown hb3 hfar hsz3
    have hS3 : VS w1 vb g kd nn x y w3 := HF.out w3 hb3 hfar
    obtain ⟨A', c', rfl, _⟩ := own_form hown
    have G := Lib.hid (HG.out w3 hfar)
    have g0 := G.out.1
    have g1 := G.out.2
    have HOW := Lib.hid hown
    have HB3 := Lib.hid hb3
    clear hown hb3 hfar
    refine hK _ _ ⟨hS3, ?_⟩; clear hK K
    refine wpAnyH_one (i := 8) (by kernel_rfl) rfl (fun K hK => ?_)
    go_simp
    refine hK _ _ ⟨hS3, ?_⟩; clear hK K
    refine wpAnyH_one (i := 9) (by kernel_rfl) rfl (fun K hK => ?_)
    go_simp
    refine hK _ _ ⟨hS3, ?_⟩; clear hK K
    refine wpAnyH_one (i := 10) (by kernel_rfl) rfl (fun K hK => ?_)
    go_simp
    refine hK _ _ ⟨(hS3.put hvg.out _), ?_⟩; clear hK K
    refine wpAnyH_done (by kernel_rfl) ?_ _
    go_wp2_with fail
    go_end0
    exact ⟨⟨_, rfl⟩, A', c', by simp [go_sem, g0], by simpa [go_sem] using g1, own_set HOW.out (Nat.lt_succ_self g) _ _, (HB.out.trans HB3.out).setCell (p := ⟨g, 0, none⟩) (Nat.le_refl g) _⟩
  · go_simp
    refine hK _ _ ⟨(hS0.alloc hgl.out _), ?_⟩; clear hK K
    refine wpAnyH_one (i := 4) (by kernel_rfl) rfl (fun K hK => ?_)
    go_simp
    refine hK _ _ ⟨(hS0.alloc hgl.out _), ?_⟩; clear hK K
    refine wpAnyH_one (i := 7) (by kernel_rfl) rfl (fun K hK => ?_)
    refine step_append_stk _ rfl (.tmp 10) (.tmp 12) 29 rfl (g + 1) 27 i0 (.agg #[.int .i64 0, .int .i64 0, .complex .f64 0 0]) 3 32 Try.underlying29 hi hz0 hz1 hz2 rfl (by decide) (.slice A n c) n xs ?qq1 HK.out ⟨w1.heap.size, 0, none⟩ 1 1 (by decide) [.int .i64 kd, .int .i64 nn, .complex .f64 x y] ?qq2 hsrc.out hone.out (by unfold maxLen; omega) (by omega) hgl2.out (Nat.le_succ g) (hS0.alloc hgl.out _).bw ?_
    case qq1 => go_simp
    case qq2 => go_simp
    intro v' w3 hown hb3 hfar hsz3
    have hS3 : VS w1 vb g kd nn x y w3 := HF.out w3 hb3 hfar
    obtain ⟨A', c', rfl, _⟩ := own_form hown
    have G := Lib.hid (HG.out w3 hfar)
    have g0 := G.out.1
    have g1 := G.out.2
    have HOW := Lib.hid hown
    have HB3 := Lib.hid hb3
    clear hown hb3 hfar
    refine hK _ _ ⟨hS3, ?_⟩; clear hK K
    refine wpAnyH_one (i := 8) (by kernel_rfl) rfl (fun K hK => ?_)
    go_simp
    refine hK _ _ ⟨hS3, ?_⟩; clear hK K
    refine wpAnyH_one (i := 9) (by kernel_rfl) rfl (fun K hK => ?_)
    go_simp
    refine hK _ _ ⟨hS3, ?_⟩; clear hK K
    refine wpAnyH_one (i := 10) (by kernel_rfl) rfl (fun K hK => ?_)
    go_simp
    refine hK _ _ ⟨(hS3.put hvg.out _), ?_⟩; clear hK K
    refine wpAnyH_done (by kernel_rfl) ?_ _
    go_wp2_with fail
    go_end0
    exact ⟨⟨_, rfl⟩, A', c', by simp [go_sem, g0], by simpa [go_sem] using g1, own_set HOW.out (Nat.lt_succ_self g) _ _, (HB.out.trans HB3.out).setCell (p := ⟨g, 0, none⟩) (Nat.le_refl g) _⟩
end Go.Proofs.Ytpladpmkpchndaa
