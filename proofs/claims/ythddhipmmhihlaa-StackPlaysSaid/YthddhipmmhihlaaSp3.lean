/-
  The flat stack: one more, zeros on top, some values in a row of their own.
-/
import Derived.Test.YthddhipmmhihlaaSp2
namespace Go.Proofs.Ythddhipmmhihlaa
open Go.RowKit
set_option linter.unusedSimpArgs false
set_option linter.unusedVariables false
attribute [local go_sem] run_store_cplx
theorem wpAnyH_two {P : Program} {ops : Array Oper} {Q : Exit → Act → World → Prop} {md : Region.Mode} {S : World → Prop} {i j fuel : Nat} {oi oj : Oper} {listed : Array Bool} {a : Act} {w : World}
    (hr : Region.ready md ops listed = [i, j]) (hi : ops[i]? = some oi) (hj : ops[j]? = some oj)
    (h : ∀ K' : Act → World → Prop, (∀ a w, S w ∧ wpAnyH P md ops Q S fuel (listed.setIfInBounds i true) a w → K' a w) → if Region.wanted oi (yielded ops a.tmps) = true then Oper.wp P oi a w K' Q else K' (a.put oi.dst undef) w)
    (k : ∀ K' : Act → World → Prop, (∀ a w, S w ∧ wpAnyH P md ops Q S fuel (listed.setIfInBounds j true) a w → K' a w) → if Region.wanted oj (yielded ops a.tmps) = true then Oper.wp P oj a w K' Q else K' (a.put oj.dst undef) w) :
    wpAnyH P md ops Q S (fuel + 1) listed a w :=
  wpAnyH_all hr (by simp) (fun x hx => by
    simp only [List.mem_cons, List.not_mem_nil, or_false] at hx
    rcases hx with rfl | rfl
    · exact wpOp_step hi h
    · exact wpOp_step hj k)
theorem own_lt3 {w : World} {base : Nat} {e : TypeId} {size n c : Nat} {A : Option Addr} {xs : List Value} (h : w.ownsRow base e size (.slice A n c) n xs) {j : Nat} (hA : A = some ⟨j, 0, none⟩) : base ≤ j ∧ j < w.heap.size := by
  subst hA
  exact h.lt j rfl
/-- Behind an append and the store of the stack's own variable. -/
theorem grown_fin {w W W' : World} {g c c' m : Nat} {A A' : Option Addr} {vs us : List DV} (h : SkW w g A c vs) (hW : Kp (fun _ => False) w W) (hown : W'.ownsRow (g + 1) 45 3 (.slice A' (vs.length + m) c') (vs.length + m) (vs.flatMap cellsV ++ us.flatMap cellsV)) (hm : us.length = m) (hk : Kp (fun k => A = some ⟨k, 0, none⟩) W W') (hA : A' = A ∨ ∃ k, A' = some ⟨k, 0, none⟩ ∧ W.heap.size ≤ k) :
    SkTo w g A (vs ++ us) (W'.setCell ⟨g, 0, none⟩ (.slice A' (vs.length + m) c')) ∧ W'.cell? ⟨g, 0, none⟩ = some (.slice A vs.length c) ∧ W'.frozen? ⟨g, 0, none⟩ = false := by
  have hWs := h.on hW
  have hgA : ¬ A = some ⟨g, 0, none⟩ := fun e => by subst e; exact h.ne rfl
  have c5 : W'.cell? ⟨g, 0, none⟩ = some (.slice A vs.length c) := hk.cellv hWs.c0 hgA
  have f5 : W'.frozen? ⟨g, 0, none⟩ = false := (hk.frozen (World.block_lt_of_cell? _ _ hWs.c0) hgA).trans hWs.f0
  have hl : (vs ++ us).length = vs.length + m := by simp [hm]
  have hs := hW.size
  refine ⟨⟨A', c', ⟨?_, ?_, ?_⟩, ?_, fun j hj => ?_⟩, c5, f5⟩
  · rw [hl]; simp [go_sem, c5]
  · rw [World.frozen?_setCell]; exact f5
  · rw [hl, List.flatMap_append]
    exact (RowF.ofOwn hown).set _ (fun r e => by have := (own_lt3 hown e).1; show r ≠ g; omega) _
  · exact ((hW.mono (T := Bk g A) fun _ _ h => h.elim).trans (hk.mono fun j _ e => .inr e)).setCell (p := ⟨g, 0, none⟩) (fun _ => .inl rfl) _
  · rcases hj with rfl | e
    · exact .inl (.inl rfl)
    · rcases hA with rfl | ⟨k, e', hk'⟩
      · exact .inl (.inr e)
      · rw [e'] at e
        injection e with e
        injection e with e
        exact .inr (by omega)
set_option maxRecDepth 100000 in
set_option maxHeartbeats 4000000 in
theorem spush_any (g c : Nat) (A : Option Addr) (vs : List DV) (v : DV) (w : World) (h : SkW w g A c vs) (hn : vs.length ≤ 1000) :
    Calls Try.prog 23 #[.pointer (some ⟨g, 0, none⟩), aggV v] w fun e w' => (∃ u, e = .returned u) ∧ SkTo w g A (vs ++ [v]) w' := by
  obtain ⟨vk, vn, vx, vy⟩ := v
  show Calls _ _ #[_, vV vk vn vx vy] w _
  obtain ⟨i0, hi, hz0, hz1, hz2⟩ := info_parts info_val
  obtain ⟨w1, hw1⟩ : ∃ w1, w.alloc (.cells #[.int .i64 vk, .int .i64 vn, .complex .f64 vx vy] 45) = w1 := ⟨_, rfl⟩
  have hk1 : Kp (fun _ => False) w w1 := by rw [← hw1]; exact (Kp.refl _ _).alloc _
  have h1 := h.on hk1
  have z : ∀ j u, #[Value.int .i64 vk, .int .i64 vn, .complex .f64 vx vy][j]? = some u → w1.cell? ⟨w.heap.size, j, none⟩ = some u := fun j u hu => by
    rw [← hw1]
    exact (new_cells (Below.refl _ _) j u hu).1
  have HB : Hid (∀ j, Bk g A j → j < w.heap.size) := Lib.hid fun j hj => h.blk_lt hj
  have HQ : Hid (∀ W : World, Kp (Bk g A) w1 W → W.cell? ⟨w.heap.size, 0, none⟩ = some (.int .i64 vk) ∧ W.cell? ⟨w.heap.size, 1, none⟩ = some (.int .i64 vn) ∧ W.cell? ⟨w.heap.size, 2, none⟩ = some (.complex .f64 vx vy)) := Lib.hid fun W hW => by
    have nb : ¬ Bk g A w.heap.size := fun hB => absurd (HB.out _ hB) (Nat.lt_irrefl _)
    exact ⟨hW.cellv (z 0 _ rfl) nb, hW.cellv (z 1 _ rfl) nb, hW.cellv (z 2 _ rfl) nb⟩
  have hk4 : Kp (fun _ => False) w1 (w1.drew.alloc (.cells #[.int .i64 vk, .int .i64 vn, .complex .f64 vx vy] 45)) := ((Kp.refl _ _).drew).alloc _
  have h4 := h1.on hk4
  have HROW := Lib.hid h4.row
  have g0 : w1.cell? ⟨g, 0, none⟩ = some (.slice A vs.length c) := h1.c0
  have g4 := h4.c0
  have HF : Hid (∀ (W' : World) (A' : Option Addr) (c' : Nat), W'.ownsRow (g + 1) 45 3 (.slice A' (vs.length + 1) c') (vs.length + 1) (vs.flatMap cellsV ++ [.int .i64 vk, .int .i64 vn, .complex .f64 vx vy]) → Kp (fun k => A = some ⟨k, 0, none⟩) (w1.drew.alloc (.cells #[.int .i64 vk, .int .i64 vn, .complex .f64 vx vy] 45)) W' → (A' = A ∨ ∃ k, A' = some ⟨k, 0, none⟩ ∧ (w1.drew.alloc (.cells #[.int .i64 vk, .int .i64 vn, .complex .f64 vx vy] 45)).heap.size ≤ k) → SkTo w g A (vs ++ [⟨vk, vn, vx, vy⟩]) (W'.setCell ⟨g, 0, none⟩ (.slice A' (vs.length + 1) c')) ∧ W'.cell? ⟨g, 0, none⟩ = some (.slice A vs.length c) ∧ W'.frozen? ⟨g, 0, none⟩ = false) := Lib.hid fun W' A' c' hown hk hA => grown_fin (us := [⟨vk, vn, vx, vy⟩]) h (hk1.trans hk4) (by simpa [cellsV] using hown) rfl hk hA
  have hsrc := Lib.hid (src_v w1.drew vk vn vx vy)
  have hone := Lib.hid (one_v vk vn vx vy)
  have hS0 : Kp (Bk g A) w1 w1.drew := (Kp.refl _ _).drew
  have hS4 : Kp (Bk g A) w1 (w1.drew.alloc (.cells #[.int .i64 vk, .int .i64 vn, .complex .f64 vx vy] 45)) := hk4.mono fun _ _ h => h.elim
  have hgl : g < w1.heap.size := h1.blk_lt (.inl rfl)
  have hbase : g + 1 ≤ (w1.drew.alloc (.cells #[.int .i64 vk, .int .i64 vn, .complex .f64 vx vy] 45)).heap.size := by simp; omega
  have h63 : vs.length + 1 ≤ maxLen := by unfold maxLen; omega
  have hby : (vs.length + 1) * 32 ≤ 140737488355328 := by omega
  have HE := Lib.hid hw1
  generalize vs.length = n at *
  clear h h1 h4 z hk1 hk4 hw1
  go_enter Try.func23, Try.ntmps23
  go_wp2_with fail
  rw [HE.out]
  refine wp_region_held (S := fun W => Kp (Bk g A) w1 W) (by kernel_rfl) ?_
  change wpAnyH _ _ _ _ _ _ _ _ (World.drew _)
  refine wpAnyH_take (i := 0) (v := .pointer (some ⟨g, 0, none⟩)) rfl (by kernel_rfl) (by kernel_rfl) (by kernel_rfl) (fun _ _ _ h => h) (Or.inl ⟨by rfl, by intro W hW; go_simp; try (first | (with_reducible rfl) | omega)⟩) hS0 ?_
  refine wpAnyH_take (i := 1) (v := .pointer (some ⟨g, 0, none⟩)) rfl (by kernel_rfl) (by kernel_rfl) (by kernel_rfl) (fun _ _ _ h => h) (Or.inl ⟨by rfl, by intro W hW; go_simp; try (first | (with_reducible rfl) | omega)⟩) hS0 ?_
  refine wpAnyH_take (i := 2) (v := .pointer (some ⟨g, 0, none⟩)) rfl (by kernel_rfl) (by kernel_rfl) (by kernel_rfl) (fun _ _ _ h => h) (Or.inl ⟨by rfl, by intro W hW; go_simp; try (first | (with_reducible rfl) | omega)⟩) hS0 ?_
  refine wpAnyH_take (i := 3) (v := .pointer (some ⟨g, 0, none⟩)) rfl (by kernel_rfl) (by kernel_rfl) (by kernel_rfl) (fun _ _ _ h => h) (Or.inl ⟨by rfl, by intro W hW; go_simp; try (first | (with_reducible rfl) | omega)⟩) hS0 ?_
  refine wpAnyH_take (i := 5) (v := vV vk vn vx vy) rfl (by kernel_rfl) (by kernel_rfl) (by kernel_rfl) (fun _ _ _ h => h) (Or.inl ⟨by rfl, by intro W hW; obtain ⟨g0, g1, g2⟩ := HQ.out W hW; go_simp; try (first | (with_reducible rfl) | omega)⟩) hS0 ?_
  refine wpAnyH_two (i := 4) (j := 6) (by kernel_rfl) rfl rfl (fun K hK => ?_) (fun K hK => ?_)
  · go_simp
    refine hK _ _ ⟨hS0, ?_⟩; clear hK K
    refine wpAnyH_one (i := 6) (by kernel_rfl) rfl (fun K hK => ?_)
    go_simp
    refine hK _ _ ⟨hS4, ?_⟩; clear hK K
    refine wpAnyH_one (i := 7) (by kernel_rfl) rfl (fun K hK => ?_)
    refine step_append_rowF _ rfl (.tmp 10) (.tmp 12) 24 rfl (g + 1) 45 i0 (.agg #[.int .i64 0, .int .i64 0, .complex .f64 0 0]) 3 32 Try.underlying24 hi hz0 hz1 hz2 rfl (by decide) A n c (vs.flatMap cellsV) ?qq1 HROW.out ⟨w1.heap.size, 0, none⟩ 1 1 (by decide) [.int .i64 vk, .int .i64 vn, .complex .f64 vx vy] ?qq2 hsrc.out hone.out h63 hby hbase ?_
    case qq1 => go_simp
    case qq2 => go_simp
    intro A' c' W' hown hkA hA
    have F := Lib.hid (HF.out W' A' c' hown hkA hA)
    have e0 := F.out.2.1
    have e1 := F.out.2.2
    have hS5 : Kp (Bk g A) w1 W' := hS4.trans (hkA.mono fun j _ e => .inr e)
    clear hown hkA hA
    refine hK _ _ ⟨hS5, ?_⟩; clear hK K
    refine wpAnyH_one (i := 8) (by kernel_rfl) rfl (fun K hK => ?_)
    go_simp
    refine hK _ _ ⟨hS5, ?_⟩; clear hK K
    refine wpAnyH_one (i := 9) (by kernel_rfl) rfl (fun K hK => ?_)
    go_simp
    refine hK _ _ ⟨hS5, ?_⟩; clear hK K
    refine wpAnyH_one (i := 10) (by kernel_rfl) rfl (fun K hK => ?_)
    go_simp
    refine hK _ _ ⟨(hS5.setCell (p := ⟨g, 0, none⟩) (fun _ => .inl rfl) _), ?_⟩; clear hK K
    refine wpAnyH_done (by kernel_rfl) ?_ _
    go_wp2_with fail
    go_end0
    exact ⟨⟨_, rfl⟩, F.out.1⟩
  · go_simp
    refine hK _ _ ⟨hS4, ?_⟩; clear hK K
    refine wpAnyH_one (i := 4) (by kernel_rfl) rfl (fun K hK => ?_)
    go_simp
    refine hK _ _ ⟨hS4, ?_⟩; clear hK K
    refine wpAnyH_one (i := 7) (by kernel_rfl) rfl (fun K hK => ?_)
    refine step_append_rowF _ rfl (.tmp 10) (.tmp 12) 24 rfl (g + 1) 45 i0 (.agg #[.int .i64 0, .int .i64 0, .complex .f64 0 0]) 3 32 Try.underlying24 hi hz0 hz1 hz2 rfl (by decide) A n c (vs.flatMap cellsV) ?qq1 HROW.out ⟨w1.heap.size, 0, none⟩ 1 1 (by decide) [.int .i64 vk, .int .i64 vn, .complex .f64 vx vy] ?qq2 hsrc.out hone.out h63 hby hbase ?_
    case qq1 => go_simp
    case qq2 => go_simp
    intro A' c' W' hown hkA hA
    have F := Lib.hid (HF.out W' A' c' hown hkA hA)
    have e0 := F.out.2.1
    have e1 := F.out.2.2
    have hS5 : Kp (Bk g A) w1 W' := hS4.trans (hkA.mono fun j _ e => .inr e)
    clear hown hkA hA
    refine hK _ _ ⟨hS5, ?_⟩; clear hK K
    refine wpAnyH_one (i := 8) (by kernel_rfl) rfl (fun K hK => ?_)
    go_simp
    refine hK _ _ ⟨hS5, ?_⟩; clear hK K
    refine wpAnyH_one (i := 9) (by kernel_rfl) rfl (fun K hK => ?_)
    go_simp
    refine hK _ _ ⟨hS5, ?_⟩; clear hK K
    refine wpAnyH_one (i := 10) (by kernel_rfl) rfl (fun K hK => ?_)
    go_simp
    refine hK _ _ ⟨(hS5.setCell (p := ⟨g, 0, none⟩) (fun _ => .inl rfl) _), ?_⟩; clear hK K
    refine wpAnyH_done (by kernel_rfl) ?_ _
    go_wp2_with fail
    go_end0
    exact ⟨⟨_, rfl⟩, F.out.1⟩
def zsM (ts : List Int) : List DV := ts.map fun t => ⟨zeroM t, 0, 0, 0⟩
theorem zs_flat (ts : List Int) : (zsM ts).flatMap cellsV = ts.flatMap zf := by
  unfold zsM
  rw [List.flatMap_map]
  rfl
set_option maxRecDepth 100000 in
set_option maxHeartbeats 4000000 in
theorem grow_any (g c qc m : Nat) (qA : Option Addr) (A : Option Addr) (vs : List DV) (ts : List Int) (w : World) (h : SkW w g A c vs) (hn : vs.length ≤ 1000) (hm0 : 0 < m) (hm1 : m ≤ 1000) (hq : SlR 1 8 (RInt .i64) w w.heap.size qA m qc ts) :
    Calls Try.prog 28 #[.pointer (some ⟨g, 0, none⟩), .slice qA m qc] w fun e w' => e = .returned (.int .i64 vs.length) ∧ SkTo w g A (vs ++ zsM ts) w' := by
  obtain ⟨i0, hi, hz0, hz1, hz2⟩ := info_parts info_val
  have HC : Hid (Calls Try.prog 33 #[.slice qA m qc] w.drew (IsVRow m (ts.flatMap zf) w.drew)) := Lib.hid (row_any qA m qc w.heap.size ts w.drew hq (Nat.le_refl _) hm1)
  have H := Lib.hid h
  have g0 : w.cell? ⟨g, 0, none⟩ = some (.slice A vs.length c) := h.c0
  have hgl : g < w.heap.size := h.blk_lt (.inl rfl)
  have HFF : Hid (∀ (W W' : World) (A' : Option Addr) (c' : Nat), Kp (fun _ => False) w W → W'.ownsRow (g + 1) 45 3 (.slice A' (vs.length + m) c') (vs.length + m) (vs.flatMap cellsV ++ ts.flatMap zf) → Kp (fun k => A = some ⟨k, 0, none⟩) W W' → (A' = A ∨ ∃ k, A' = some ⟨k, 0, none⟩ ∧ W.heap.size ≤ k) → SkTo w g A (vs ++ zsM ts) (W'.setCell ⟨g, 0, none⟩ (.slice A' (vs.length + m) c')) ∧ W'.cell? ⟨g, 0, none⟩ = some (.slice A vs.length c) ∧ W'.frozen? ⟨g, 0, none⟩ = false) := Lib.hid fun W W' A' c' hW hown hk hA => grown_fin (us := zsM ts) h hW (by rw [zs_flat]; exact hown) (by unfold zsM; rw [List.length_map]; exact hq.1) hk hA
  have hS0 : Kp (Bk g A) w w.drew := (Kp.refl _ _).drew
  have h63 : vs.length + m ≤ maxLen := by unfold maxLen; omega
  have hby : (vs.length + m) * 32 ≤ 140737488355328 := by omega
  have HR : Hid (∀ W, Kp (fun _ => False) w W → RowF W (g + 1) 45 3 A vs.length c (vs.flatMap cellsV) ∧ W.cell? ⟨g, 0, none⟩ = some (.slice A vs.length c)) := Lib.hid fun W hW => ⟨(h.on hW).row, (h.on hW).c0⟩
  generalize vs.length = n at *
  clear h hq
  go_enter Try.func28, Try.ntmps28
  go_wp2_with fail
  refine wp_region_held (S := fun W => Kp (Bk g A) w W) (by kernel_rfl) ?_
  change wpAnyH _ _ _ _ _ _ _ _ (World.drew _)
  refine wpAnyH_take (i := 0) (v := .pointer (some ⟨g, 0, none⟩)) rfl (by kernel_rfl) (by kernel_rfl) (by kernel_rfl) (fun _ _ _ h => h) (Or.inl ⟨by rfl, by intro W hW; go_simp; try (first | (with_reducible rfl) | omega)⟩) hS0 ?_
  refine wpAnyH_take (i := 1) (v := .pointer (some ⟨g, 0, none⟩)) rfl (by kernel_rfl) (by kernel_rfl) (by kernel_rfl) (fun _ _ _ h => h) (Or.inl ⟨by rfl, by intro W hW; go_simp; try (first | (with_reducible rfl) | omega)⟩) hS0 ?_
  refine wpAnyH_take (i := 2) (v := .pointer (some ⟨g, 0, none⟩)) rfl (by kernel_rfl) (by kernel_rfl) (by kernel_rfl) (fun _ _ _ h => h) (Or.inl ⟨by rfl, by intro W hW; go_simp; try (first | (with_reducible rfl) | omega)⟩) hS0 ?_
  refine wpAnyH_take (i := 3) (v := .pointer (some ⟨g, 0, none⟩)) rfl (by kernel_rfl) (by kernel_rfl) (by kernel_rfl) (fun _ _ _ h => h) (Or.inl ⟨by rfl, by intro W hW; go_simp; try (first | (with_reducible rfl) | omega)⟩) hS0 ?_
  refine wpAnyH_take (i := 5) (v := .slice qA m qc) rfl (by kernel_rfl) (by kernel_rfl) (by kernel_rfl) (fun _ _ _ h => h) (Or.inl ⟨by rfl, by intro W hW; go_simp; try (first | (with_reducible rfl) | omega)⟩) hS0 ?_
  refine wpAnyH_two (i := 4) (j := 6) (by kernel_rfl) rfl rfl (fun K hK => ?_) (fun K hK => ?_)
  · go_simp
    refine hK _ _ ⟨hS0, ?_⟩; clear hK K
    refine wpAnyH_one (i := 6) (by kernel_rfl) rfl (fun K hK => ?_)
    go_simp
    refine Calls.mono HC.out ?_
    rintro e w4 ⟨r4, c4, rfl, own4, hb4⟩
    have hk4 : Kp (fun _ => False) w w4 := ((Kp.refl _ _).drew).ofBelow hb4
    have hS4 : Kp (Bk g A) w w4 := hk4.mono fun _ _ h => h.elim
    have HROW := Lib.hid (HR.out w4 hk4).1
    have g4 := (HR.out w4 hk4).2
    obtain ⟨ad4, rfl⟩ : ∃ ad, r4 = some ad := by
      obtain ⟨A9, c9, e9, h09, _⟩ := own_form own4
      simp only [Value.slice.injEq, true_and] at e9
      obtain ⟨rfl, rfl⟩ := e9
      cases r4 with
      | none => exact absurd (h09 rfl) (by omega)
      | some ad => exact ⟨ad, rfl⟩
    have hsrc := Lib.hid (own_src own4)
    have hone : Hid (∀ u ∈ ts.flatMap zf, u.oneCell' = true) := Lib.hid fun u hu => by
      obtain ⟨v, _, hv⟩ := List.mem_flatMap.1 hu
      simp [zf] at hv
      rcases hv with rfl | rfl | rfl <;> rfl
    have hbase : g + 1 ≤ w4.heap.size := by have := hk4.size; omega
    have HF := Lib.hid fun W' A' c' => HFF.out w4 W' A' c' hk4
    clear own4 hb4
    go_simp
    refine hK _ _ ⟨hS4, ?_⟩; clear hK K
    refine wpAnyH_one (i := 7) (by kernel_rfl) rfl (fun K hK => ?_)
    refine step_append_rowF _ rfl (.tmp 17) (.tmp 19) 24 rfl (g + 1) 45 i0 (.agg #[.int .i64 0, .int .i64 0, .complex .f64 0 0]) 3 32 Try.underlying24 hi hz0 hz1 hz2 rfl (by decide) A n c (vs.flatMap cellsV) ?qq1 HROW.out ad4 m c4 hm0 (ts.flatMap zf) ?qq2 hsrc.out hone.out h63 hby hbase ?_
    case qq1 => go_simp
    case qq2 => go_simp
    intro A' c' W' hown hkA hA
    have F := Lib.hid (HF.out W' A' c' hown hkA hA)
    have e0 := F.out.2.1
    have e1 := F.out.2.2
    have hS5 : Kp (Bk g A) w W' := hS4.trans (hkA.mono fun j _ e => .inr e)
    clear hown hkA hA
    refine hK _ _ ⟨hS5, ?_⟩; clear hK K
    refine wpAnyH_one (i := 8) (by kernel_rfl) rfl (fun K hK => ?_)
    go_simp
    refine hK _ _ ⟨hS5, ?_⟩; clear hK K
    refine wpAnyH_one (i := 9) (by kernel_rfl) rfl (fun K hK => ?_)
    go_simp
    refine hK _ _ ⟨hS5, ?_⟩; clear hK K
    refine wpAnyH_one (i := 10) (by kernel_rfl) rfl (fun K hK => ?_)
    go_simp
    refine hK _ _ ⟨(hS5.setCell (p := ⟨g, 0, none⟩) (fun _ => .inl rfl) _), ?_⟩; clear hK K
    refine wpAnyH_done (by kernel_rfl) ?_ _
    go_wp2_with fail
    go_ret
    exact ⟨rfl, F.out.1⟩
  · go_simp
    refine Calls.mono HC.out ?_
    rintro e w4 ⟨r4, c4, rfl, own4, hb4⟩
    have hk4 : Kp (fun _ => False) w w4 := ((Kp.refl _ _).drew).ofBelow hb4
    have hS4 : Kp (Bk g A) w w4 := hk4.mono fun _ _ h => h.elim
    have HROW := Lib.hid (HR.out w4 hk4).1
    have g4 := (HR.out w4 hk4).2
    obtain ⟨ad4, rfl⟩ : ∃ ad, r4 = some ad := by
      obtain ⟨A9, c9, e9, h09, _⟩ := own_form own4
      simp only [Value.slice.injEq, true_and] at e9
      obtain ⟨rfl, rfl⟩ := e9
      cases r4 with
      | none => exact absurd (h09 rfl) (by omega)
      | some ad => exact ⟨ad, rfl⟩
    have hsrc := Lib.hid (own_src own4)
    have hone : Hid (∀ u ∈ ts.flatMap zf, u.oneCell' = true) := Lib.hid fun u hu => by
      obtain ⟨v, _, hv⟩ := List.mem_flatMap.1 hu
      simp [zf] at hv
      rcases hv with rfl | rfl | rfl <;> rfl
    have hbase : g + 1 ≤ w4.heap.size := by have := hk4.size; omega
    have HF := Lib.hid fun W' A' c' => HFF.out w4 W' A' c' hk4
    clear own4 hb4
    go_simp
    refine hK _ _ ⟨hS4, ?_⟩; clear hK K
    refine wpAnyH_one (i := 4) (by kernel_rfl) rfl (fun K hK => ?_)
    go_simp
    refine hK _ _ ⟨hS4, ?_⟩; clear hK K
    refine wpAnyH_one (i := 7) (by kernel_rfl) rfl (fun K hK => ?_)
    refine step_append_rowF _ rfl (.tmp 17) (.tmp 19) 24 rfl (g + 1) 45 i0 (.agg #[.int .i64 0, .int .i64 0, .complex .f64 0 0]) 3 32 Try.underlying24 hi hz0 hz1 hz2 rfl (by decide) A n c (vs.flatMap cellsV) ?qq1 HROW.out ad4 m c4 hm0 (ts.flatMap zf) ?qq2 hsrc.out hone.out h63 hby hbase ?_
    case qq1 => go_simp
    case qq2 => go_simp
    intro A' c' W' hown hkA hA
    have F := Lib.hid (HF.out W' A' c' hown hkA hA)
    have e0 := F.out.2.1
    have e1 := F.out.2.2
    have hS5 : Kp (Bk g A) w W' := hS4.trans (hkA.mono fun j _ e => .inr e)
    clear hown hkA hA
    refine hK _ _ ⟨hS5, ?_⟩; clear hK K
    refine wpAnyH_one (i := 8) (by kernel_rfl) rfl (fun K hK => ?_)
    go_simp
    refine hK _ _ ⟨hS5, ?_⟩; clear hK K
    refine wpAnyH_one (i := 9) (by kernel_rfl) rfl (fun K hK => ?_)
    go_simp
    refine hK _ _ ⟨hS5, ?_⟩; clear hK K
    refine wpAnyH_one (i := 10) (by kernel_rfl) rfl (fun K hK => ?_)
    go_simp
    refine hK _ _ ⟨(hS5.setCell (p := ⟨g, 0, none⟩) (fun _ => .inl rfl) _), ?_⟩; clear hK K
    refine wpAnyH_done (by kernel_rfl) ?_ _
    go_wp2_with fail
    go_ret
    exact ⟨rfl, F.out.1⟩
end Go.Proofs.Ythddhipmmhihlaa
