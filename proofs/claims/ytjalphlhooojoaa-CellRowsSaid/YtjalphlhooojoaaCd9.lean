/-
  The zeros of any types: the walk.
-/
import Derived.Test.YtjalphlhooojoaaCd8
import Derived.Laws.StructEq
namespace Go.Proofs.Ytjalphlhooojoaa
open Go.RowKit
set_option linter.unusedSimpArgs false
set_option linter.unusedVariables false
attribute [local go_sem] run_store_cplx
set_option maxRecDepth 100000 in
theorem eqv_in (k n k' n' : Int) (W : World) : (Op.equalIn 10000 29 (vV k n 0 0) (vV k' n' 0 0)).run Try.prog W = .ok ((k == k') && (n == n')) W := by
  have hp : ∀ (k n : Int) (W : World), (part 26 #[.int .i64 k, .int .i64 n, .complex .f64 0 0] 0).run Try.prog W = .ok (.int .i64 k) W ∧ (part 3 #[.int .i64 k, .int .i64 n, .complex .f64 0 0] 1).run Try.prog W = .ok (.int .i64 n) W ∧ (part 27 #[.int .i64 k, .int .i64 n, .complex .f64 0 0] 2).run Try.prog W = .ok (.complex .f64 0 0) W := fun k n W => ⟨by kernel_rfl, by kernel_rfl, by kernel_rfl⟩
  have e0 := fun (a b : Int) (W : World) => run_equalIn_int (P := Try.prog) W 9998 26 .i64 .i64 a b Try.underlying26
  have e1 := fun (a b : Int) (W : World) => run_equalIn_int (P := Try.prog) W 9998 3 .i64 .i64 a b Try.underlying3
  have e2 : ∀ W : World, (Op.equalIn 9999 27 (.complex .f64 0 0) (.complex .f64 0 0)).run Try.prog W = .ok true W := fun W => by kernel_rfl
  rw [run_equalIn_struct W 9999 _ _ _ (by kernel_rfl) (by kernel_rfl)]
  simp only [Program.fieldsOf, Try.underlying29]
  simp only [Op.eqFields]
  have hp0 := fun k n W => (hp k n W).1
  have hp1 := fun k n W => (hp k n W).2.1
  have hp2 := fun k n W => (hp k n W).2.2
  clear hp
  cases h0 : (k == k') <;> cases h1 : (n == n')
  all_goals simp [hp0, hp1, hp2, e0, e1, e2, h0, h1, Op.eqFields]
theorem eqv_run (k n k' n' : Int) (W : World) : (binOp .eql 29 (vV k n 0 0) (vV k' n' 0 0)).run Try.prog W = .ok (.bool ((k == k') && (n == n'))) W := by
  rw [run_eql_struct, eqv_in]
  rfl
theorem nev_run (k n k' n' : Int) (W : World) : (binOp .neq 29 (vV k n 0 0) (vV k' n' 0 0)).run Try.prog W = .ok (.bool (!((k == k') && (n == n')))) W := by
  rw [run_neq_struct, eqv_in]
  rfl
theorem eqv_guard : Try.prog.eqGuardType Try.prog.depth 29 = false := by kernel_rfl
theorem conv_types : Conv Try.prog 38 (RSl 1 8 (RInt .i64)) := conv_sl Try.underlying38 (by kernel_rfl) (by kernel_rfl) (by decide) (conv_int Try.underlying26)
def okV (n : Nat) (w wr : World) (A : Option Addr) (c : Nat) (xs : List Int) : Prop := ∀ k t, xs[k]? = some t → ∃ g, A = some ⟨g, 0, none⟩ ∧ ∀ W, Below wr.heap.size wr W → W.cell? ⟨g, k * 3, none⟩ = some (.int .i64 (zeroM t)) ∧ W.cell? ⟨g, k * 3 + 1, none⟩ = some (.int .i64 0) ∧ W.cell? ⟨g, k * 3 + 2, none⟩ = some (.complex .f64 0 0)
theorem okV_of {n c : Nat} {w wr : World} {A : Option Addr} {xs : List Int} (h : wr.ownsRow w.heap.size 29 3 (.slice A n c) n (xs.flatMap zf)) : okV n w wr A c xs := by
  intro k t ht
  have hl : k * 3 + 2 < n * 3 := by
    have h1 := h.1
    rw [flatMap_len (sz := 3) zf (fun _ => rfl)] at h1
    have := (List.getElem?_eq_some_iff.1 ht).1
    omega
  obtain ⟨A', c', e, h0, h1⟩ := own_form h
  simp only [Value.slice.injEq, true_and] at e
  obtain ⟨rfl, rfl⟩ := e
  cases A with
  | none => exact absurd (h0 rfl) (by omega)
  | some ad =>
    obtain ⟨g, rfl, hg1, hg2⟩ := h1 _ rfl
    have key := fun j u (hj : j < 3) (hu : (zf t)[j]? = some u) => flatMap_at (sz := 3) zf (fun _ => rfl) xs k j t u hj ht hu
    have cl := fun j u (hu : (xs.flatMap zf)[j]? = some u) => h.cells (g := g) rfl j u hu
    refine ⟨g, rfl, fun W hW => ⟨?_, ?_, ?_⟩⟩
    · have := cl _ _ (key 0 _ (by decide) rfl)
      rw [addr_add, Nat.zero_add] at this
      exact (hW.cell hg2).trans this
    · have := cl _ _ (key 1 _ (by decide) rfl)
      rw [addr_add, Nat.zero_add] at this
      exact (hW.cell hg2).trans this
    · have := cl _ _ (key 2 _ (by decide) rfl)
      rw [addr_add, Nat.zero_add] at this
      exact (hW.cell hg2).trans this
set_option maxRecDepth 100000 in
set_option maxHeartbeats 2000000 in
theorem cellRows_walk (A : Option Addr) (n c : Nat) (xs : List Int) (w : World) (h : SlR 1 8 (RInt .i64) w w.heap.size A n c xs) :
    Calls Try.prog 4 #[.slice A n c] w fun e w' => e = .returned (.bool true) ∧ Below w.heap.size w w' := by
  have hm : n ≤ 9223372036854775807 := by have := h.2.1; have := h.2.2.1; unfold maxLen at this; omega
  by_cases hn : n ≤ 300
  · have H := Lib.hid h
    have HL : Hid (xs.length = n) := h.1
    have c1 := Lib.hid (row_any A n c w.heap.size xs w h (Nat.le_refl _) (by omega))
    have hgt : ¬ 300 < n := by omega
    clear h
    go_enter Try.func4, Try.ntmps4
    go_wp2_with fail
    refine c1.out.mono ?_
    rintro e w1 ⟨A1, cc, rfl, hown, hb1⟩
    have HO := Lib.hid (okV_of hown)
    have HB1 := Lib.hid hb1
    clear hown hb1 c1
    go_wp2_with fail
    go_loopw [4] (fun i wr => ∃ k : Nat, i = .int .i64 k ∧ k ≤ n ∧ Hid (Below w1.heap.size w1 wr)) (fun i _ => n - (intOf i).toNat)
    case atStart => exact ⟨0, rfl, Nat.zero_le _, Below.refl _ _⟩
    case round =>
      obtain ⟨k, rfl, hk, HW⟩ := hrel
      by_cases hlt : k < n
      · obtain ⟨b, off, t, rfl, hb, hx, q⟩ := int_at H.out hlt
        obtain ⟨g, rfl, hg⟩ := HO.out k t hx
        have HQ : Hid (∀ W : World, Below wr.heap.size wr W → W.cell? ⟨b, off + k, none⟩ = some (.int .i64 t) ∧ W.cell? ⟨g, k * 3, none⟩ = some (.int .i64 (zeroM t)) ∧ W.cell? ⟨g, k * 3 + 1, none⟩ = some (.int .i64 0) ∧ W.cell? ⟨g, k * 3 + 2, none⟩ = some (.complex .f64 0 0)) := Lib.hid fun W hW => by
          have hW1 := bl_trans HW.out HW.out.size hW
          have e1 := hg W hW1
          exact ⟨((bl_trans HB1.out HB1.out.size hW1).cell hb).trans q, e1.1, e1.2.1, e1.2.2⟩
        have c2 : Hid (∀ W : World, Calls Try.prog 11 #[.int .i64 t] W fun e w' => e = .returned (vV (zeroM t) 0 0 0) ∧ Below W.heap.size W w') := Lib.hid fun W => refZero_any t W
        have c3 : Hid (∀ W : World, Calls Try.prog 12 #[.int .i64 t] W fun e w' => e = .returned (vV (zeroM t) 0 0 0) ∧ Below W.heap.size W w') := Lib.hid fun W => zero_any t W
        obtain ⟨z, hz⟩ : ∃ z, zeroM t = z := ⟨_, rfl⟩
        rw [hz] at HQ c2 c3
        have hq := nev_run z 0 z 0
        have hg0 := eqv_guard
        rw [show ((z == z) && ((0 : Int) == 0)) = true by simp] at hq
        clear hg q hx hb hz
        go_wp2_with fail
        refine wp_region_held (S := fun W => Below wr.heap.size wr W) (by kernel_rfl) ?_
        change wpAnyH _ _ _ _ _ _ _ _ (World.drew _)
        have hS0 : Below wr.heap.size wr wr.drew := (Below.refl _ _).drew
        refine wpAnyH_take (i := 0) (v := .slice (some ⟨g, 0, none⟩) n cc) rfl (by kernel_rfl) (by kernel_rfl) (by kernel_rfl) (fun _ _ _ h => h) (Or.inl ⟨by rfl, by intro W hW; go_simp; try (first | (with_reducible rfl) | omega)⟩) hS0 ?_
        refine wpAnyH_take (i := 1) (v := .int .i64 k) rfl (by kernel_rfl) (by kernel_rfl) (by kernel_rfl) (fun _ _ _ h => h) (Or.inl ⟨by rfl, by intro W hW; go_simp; try (first | (with_reducible rfl) | omega)⟩) hS0 ?_
        refine wpAnyH_take (i := 2) (v := .pointer (some ⟨g, k * 3, none⟩)) rfl (by kernel_rfl) (by kernel_rfl) (by kernel_rfl) (fun _ _ _ h => h) (Or.inl ⟨by rfl, by intro W hW; go_simp; try (first | (with_reducible rfl) | omega)⟩) hS0 ?_
        refine wpAnyH_take (i := 3) (v := vV z 0 0 0) rfl (by kernel_rfl) (by kernel_rfl) (by kernel_rfl) (fun _ _ _ h => h) (Or.inl ⟨by rfl, by intro W hW; obtain ⟨g0, g1, g2, g3⟩ := HQ.out W hW; go_simp; try (first | (with_reducible rfl) | omega)⟩) hS0 ?_
        refine wpAnyH_take (i := 4) (v := .slice (some ⟨b, off, none⟩) n c) rfl (by kernel_rfl) (by kernel_rfl) (by kernel_rfl) (fun _ _ _ h => h) (Or.inl ⟨by rfl, by intro W hW; go_simp; try (first | (with_reducible rfl) | omega)⟩) hS0 ?_
        refine wpAnyH_take (i := 5) (v := .int .i64 k) rfl (by kernel_rfl) (by kernel_rfl) (by kernel_rfl) (fun _ _ _ h => h) (Or.inl ⟨by rfl, by intro W hW; go_simp; try (first | (with_reducible rfl) | omega)⟩) hS0 ?_
        refine wpAnyH_take (i := 6) (v := .pointer (some ⟨b, off + k, none⟩)) rfl (by kernel_rfl) (by kernel_rfl) (by kernel_rfl) (fun _ _ _ h => h) (Or.inl ⟨by rfl, by intro W hW; go_simp; try (first | (with_reducible rfl) | omega)⟩) hS0 ?_
        refine wpAnyH_take (i := 7) (v := .int .i64 t) rfl (by kernel_rfl) (by kernel_rfl) (by kernel_rfl) (fun _ _ _ h => h) (Or.inl ⟨by rfl, by intro W hW; obtain ⟨g0, g1, g2, g3⟩ := HQ.out W hW; go_simp; try (first | (with_reducible rfl) | omega)⟩) hS0 ?_
        refine wpAnyH_one (i := 8) (by kernel_rfl) rfl (fun K hK => ?_)
        go_simp
        refine Calls.mono (Lib.hid (c2.out _)).out ?_
        rintro e w4 ⟨rfl, hb4⟩
        have hS4 := bl_trans hS0 hS0.size hb4
        go_simp
        refine hK _ _ ⟨hS4, ?_⟩; clear hK K
        refine wpAnyH_take (i := 9) (v := .bool false) rfl (by kernel_rfl) (by kernel_rfl) (by kernel_rfl) (fun _ _ _ h => h) (Or.inl ⟨by rfl, by intro W hW; go_simp; try (first | (with_reducible rfl) | omega)⟩) hS4 ?_
        refine wpAnyH_take (i := 10) (v := .bool false) rfl (by kernel_rfl) (by kernel_rfl) (by kernel_rfl) (fun _ _ _ h => h) (Or.inl ⟨by rfl, by intro W hW; go_simp; try (first | (with_reducible rfl) | omega)⟩) hS4 ?_
        refine wpAnyH_take (i := 11) (v := .slice (some ⟨b, off, none⟩) n c) rfl (by kernel_rfl) (by kernel_rfl) (by kernel_rfl) (fun _ _ _ h => h) (Or.inl ⟨by kernel_rfl, by intro W hW; go_simp; try (first | (with_reducible rfl) | omega)⟩) hS4 ?_
        refine wpAnyH_take (i := 12) (v := .int .i64 k) rfl (by kernel_rfl) (by kernel_rfl) (by kernel_rfl) (fun _ _ _ h => h) (Or.inl ⟨by kernel_rfl, by intro W hW; go_simp; try (first | (with_reducible rfl) | omega)⟩) hS4 ?_
        refine wpAnyH_take (i := 13) (v := .pointer (some ⟨b, off + k, none⟩)) rfl (by kernel_rfl) (by kernel_rfl) (by kernel_rfl) (fun _ _ _ h => h) (Or.inl ⟨by kernel_rfl, by intro W hW; go_simp; try (first | (with_reducible rfl) | omega)⟩) hS4 ?_
        refine wpAnyH_take (i := 14) (v := .int .i64 t) rfl (by kernel_rfl) (by kernel_rfl) (by kernel_rfl) (fun _ _ _ h => h) (Or.inl ⟨by kernel_rfl, by intro W hW; obtain ⟨g0, g1, g2, g3⟩ := HQ.out W hW; go_simp; try (first | (with_reducible rfl) | omega)⟩) hS4 ?_
        refine wpAnyH_take (i := 16) (v := .slice (some ⟨g, 0, none⟩) n cc) rfl (by kernel_rfl) (by kernel_rfl) (by kernel_rfl) (fun _ _ _ h => h) (Or.inl ⟨by kernel_rfl, by intro W hW; go_simp; try (first | (with_reducible rfl) | omega)⟩) hS4 ?_
        refine wpAnyH_take (i := 17) (v := .int .i64 k) rfl (by kernel_rfl) (by kernel_rfl) (by kernel_rfl) (fun _ _ _ h => h) (Or.inl ⟨by kernel_rfl, by intro W hW; go_simp; try (first | (with_reducible rfl) | omega)⟩) hS4 ?_
        refine wpAnyH_take (i := 18) (v := .pointer (some ⟨g, k * 3, none⟩)) rfl (by kernel_rfl) (by kernel_rfl) (by kernel_rfl) (fun _ _ _ h => h) (Or.inl ⟨by kernel_rfl, by intro W hW; go_simp; try (first | (with_reducible rfl) | omega)⟩) hS4 ?_
        refine wpAnyH_take (i := 19) (v := vV z 0 0 0) rfl (by kernel_rfl) (by kernel_rfl) (by kernel_rfl) (fun _ _ _ h => h) (Or.inl ⟨by kernel_rfl, by intro W hW; obtain ⟨g0, g1, g2, g3⟩ := HQ.out W hW; go_simp; try (first | (with_reducible rfl) | omega)⟩) hS4 ?_
        refine wpAnyH_one (i := 15) (by kernel_rfl) rfl (fun K hK => ?_)
        go_simp
        refine Calls.mono (Lib.hid (c3.out _)).out ?_
        rintro e w5 ⟨rfl, hb5⟩
        have hS5 := bl_trans hS4 hS4.size hb5
        go_simp
        refine hK _ _ ⟨hS5, ?_⟩; clear hK K
        refine wpAnyH_take (i := 20) (v := .bool false) rfl (by kernel_rfl) (by kernel_rfl) (by kernel_rfl) (fun _ _ _ h => h) (Or.inl ⟨by kernel_rfl, by intro W hW; go_simp; try (first | (with_reducible rfl) | omega)⟩) hS5 ?_
        refine wpAnyH_take (i := 21) (v := .bool false) rfl (by kernel_rfl) (by kernel_rfl) (by kernel_rfl) (fun _ _ _ h => h) (Or.inl ⟨by rfl, by intro W hW; go_simp; try (first | (with_reducible rfl) | omega)⟩) hS5 ?_
        refine wpAnyH_done (by kernel_rfl) ?_ _
        go_wp2_with fail
        go_roundw
        case rel => exact ⟨k + 1, by go_num, by omega, Lib.hid (bl_trans HW.out HW.out.size hS5)⟩
        case measure => simp [intOf]; omega
      · have hkn : k = n := by omega
        subst hkn
        go_wp2_with fail
        refine (num_any _ _).mono ?_
        rintro e w4 ⟨rfl, hb4⟩
        have HB4 := Lib.hid (bl_trans HW.out HW.out.size hb4)
        have hq := eqv_run 1 k 1 k
        rw [show (((1 : Int) == 1) && ((k : Int) == k)) = true by simp] at hq
        have hg0 := eqv_guard
        clear hb4
        go_wp2_with fail
        refine (cell_lives _).mono ?_
        rintro e w5 ⟨rfl, hb5⟩
        have HB5 := Lib.hid (bl_trans HB4.out HB4.out.size hb5)
        clear hb5
        go_wp2_with fail
        go_ret
        exact ⟨rfl, bl_trans HB1.out HB1.out.size HB5.out⟩
  · have hgt : 300 < n := by omega
    clear h
    go_enter Try.func4, Try.ntmps4
    go_wp2_with fail
    refine (cell_lives _).mono ?_
    rintro e w1 ⟨rfl, hb1⟩
    have HB1 := Lib.hid hb1
    clear hb1
    go_wp2_with fail
    go_ret
    exact ⟨rfl, HB1.out⟩
end Go.Proofs.Ytjalphlhooojoaa
