/-
  The document's cursor: its next number.
-/
import Derived.Test.YtiblcodlaeijfaaMt6
import Derived.Test.YtiblcodlaeijfaaMt3
namespace Go.Proofs.Ytiblcodlaeijfaa
open Go.RowKit
set_option linter.unusedSimpArgs false
set_option linter.unusedVariables false
theorem slb_keep {w w' : World} {T : Nat → Prop} {B : Nat} {A : Option Addr} {n c : Nat} {l : List Nat} (h : SlB w B A n c l) (hT : ∀ k, T k → B ≤ k) (hk : Kp T w w') : SlB w' B A n c l := by
  obtain ⟨⟨h1, h2, h3, h4, h5⟩, hb⟩ := h
  refine ⟨⟨h1, h2, h3, h4, fun hn => ?_⟩, hb⟩
  obtain ⟨b, off, rfl, hbl, hx⟩ := h5 hn
  refine ⟨b, off, rfl, hbl, fun i x hi => ?_⟩
  obtain ⟨cs, e1, e2, e3⟩ := hx i x hi
  exact ⟨cs, e1, fun j u hj => hk.cellv (e2 j u hj) (show ¬ T b from fun ht => by have := hT b ht; omega), e3⟩
set_option maxHeartbeats 1000000 in
theorem ref_bits (A : Option Addr) (n c e B : Nat) (l : List Nat) (w : World) (h : SlB w B A n c l) (hB : B ≤ w.heap.size) : Calls Try.prog 16 #[curV A n c e] w fun e' w' => ∃ A' n' c', e' = .returned (.tuple #[.int .u64 ((bitsM l e).1 : Int), curV A' n' c' (bitsM l e).2.2]) ∧ SlB w' B A' n' c' (bitsM l e).2.1 ∧ Below w.heap.size w w' := by
  obtain ⟨w0, hw0⟩ : ∃ y, (w.alloc (.cells #[.slice A n c, .int .i64 (e : Int)] 29)).alloc (.cells #[.slice none 0 0, .int .i64 0] 29) = y := ⟨_, rfl⟩
  have hb0 : Below w.heap.size w w0 := by rw [← hw0]; exact ((Below.refl _ _).alloc (Nat.le_refl _) _).alloc (by simp) _
  have hs0 : w0.heap.size = w.heap.size + 2 := by rw [← hw0]; simp
  have z : ∀ j u, #[Value.slice none 0 0, .int .i64 0][j]? = some u → w0.cell? ⟨w.heap.size + 1, j, none⟩ = some u ∧ w0.frozen? ⟨w.heap.size + 1, j, none⟩ = false := fun j u hu => by
    rw [← hw0]
    have := new_cells (w := w.alloc (.cells #[.slice A n c, .int .i64 (e : Int)] 29)) (cs := #[Value.slice none 0 0, .int .i64 0]) (t := 29) (Below.refl _ _) j u hu
    simpa using this
  have y : ∀ j u, #[Value.slice A n c, .int .i64 (e : Int)][j]? = some u → w0.cell? ⟨w.heap.size, j, none⟩ = some u := fun j u hu => by
    rw [← hw0]
    exact (World.cell?_alloc_lt _ _ _ (by simp)).trans (new_cells (w := w) (cs := #[.slice A n c, .int .i64 (e : Int)]) (t := 29) (Below.refl _ _) j u hu).1
  obtain ⟨z0, f0⟩ := z 0 _ rfl
  obtain ⟨z1, f1⟩ := z 1 _ rfl
  have y0 := y 0 _ rfl
  have y1 := y 1 _ rfl
  have hsl0 : SlB w0 B A n c l := slb_keep (T := fun _ => False) h (fun _ h => h.elim) ((Kp.refl _ _).ofBelow hb0)
  have HB := Lib.hid hb0
  have HE := Lib.hid hw0
  have HS := Lib.hid hsl0
  have nz : ¬ w.heap.size = w.heap.size + 1 := by omega
  have HQ : Hid (∀ W : World, Kp (fun j => j = w.heap.size + 1) w0 W → W.cell? ⟨w.heap.size, 0, none⟩ = some (.slice A n c) ∧ W.cell? ⟨w.heap.size, 1, none⟩ = some (.int .i64 (e : Int))) := Lib.hid fun W hW => ⟨hW.cellv y0 nz, hW.cellv y1 nz⟩
  have HF : Hid (∀ W : World, Kp (fun j => j = w.heap.size + 1) w0 W → ∀ A' n' c' l', SlB w0 B A' n' c' l' → SlB W B A' n' c' l' ∧ Below w.heap.size w W) := Lib.hid fun W hW A' n' c' l' h1 => ⟨slb_keep h1 (fun k hk => by omega) hW, hb0.trans (hW.below hb0.size (fun k hk => by omega))⟩
  have hS0 : Kp (fun j => j = w.heap.size + 1) w0 w0.drew := (Kp.refl _ _).drew
  clear z y hb0 hw0 hsl0 h
  by_cases he : e = 0
  · subst he
    have HE : Hid ((w.alloc (.cells #[.slice A n c, .int .i64 0] 29)).alloc (.cells #[.slice none 0 0, .int .i64 0] 29) = w0) := HE
    have cG := Lib.hid (ref_Get_any _ A n c l w0 HS.out)
    have hgk := getM_k l HS.out.2
    unfold bitsM
    rw [if_pos rfl]
    unfold getV at cG
    rcases hq : getM l with ⟨u, k, er⟩
    rw [hq] at cG hgk
    simp only at cG hgk ⊢
    clear hq
    by_cases her : er = 0
    · subst her
      rw [if_pos rfl]
      have hn : l.length = n := HS.out.1.1
      obtain ⟨A2, e2, s2, b2⟩ := slb_drop HS.out (show k ≤ n by omega)
      have HSL := Lib.hid e2
      have F := Lib.hid (fun W hW => HF.out W hW A2 (n - k) (c - k) (l.drop k) s2)
      have hc : n ≤ c := HS.out.1.2.1
      have hkn : (k : Int) ≤ n := by omega
      clear e2 s2 b2 HS HF
      unfold curV
      go_enter Try.func16, Try.ntmps16
      go_wp2_with fail
      rw [HE.out]
      refine cG.out.mono ?_
      rintro e' w' ⟨rfl, rfl⟩
      go_wp2_with fail
      refine wp_region_held (S := fun W => Kp (fun j => j = w.heap.size + 1) w0 W) (by kernel_rfl) ?_
      change wpAnyH _ _ _ _ _ _ _ _ (World.drew _)
      refine wpAnyH_take (i := 0) (v := .int .u64 (u : Int)) rfl (by kernel_rfl) (by kernel_rfl) (by kernel_rfl) (fun _ _ _ h => h) (Or.inl ⟨by rfl, by intro W hW; go_simp; try (first | (with_reducible rfl) | omega)⟩) hS0 ?_
      refine wpAnyH_take (i := 1) (v := .pointer (some ⟨w.heap.size, 0, none⟩)) rfl (by kernel_rfl) (by kernel_rfl) (by kernel_rfl) (fun _ _ _ h => h) (Or.inl ⟨by rfl, by intro W hW; go_simp; try (first | (with_reducible rfl) | omega)⟩) hS0 ?_
      refine wpAnyH_take (i := 2) (v := .slice A n c) rfl (by kernel_rfl) (by kernel_rfl) (by kernel_rfl) (fun _ _ _ h => h) (Or.inl ⟨by rfl, by intro W hW; obtain ⟨g0, g1⟩ := HQ.out W hW; go_simp; try (first | (with_reducible rfl) | omega)⟩) hS0 ?_
      refine wpAnyH_take (i := 3) (v := .int .i64 (k : Int)) rfl (by kernel_rfl) (by kernel_rfl) (by kernel_rfl) (fun _ _ _ h => h) (Or.inl ⟨by rfl, by intro W hW; go_simp; try (first | (with_reducible rfl) | omega)⟩) hS0 ?_
      refine wpAnyH_take (i := 4) (v := .slice A2 (n - k) (c - k)) rfl (by kernel_rfl) (by kernel_rfl) (by kernel_rfl) (fun _ _ _ h => h) (Or.inl ⟨by rfl, by intro W hW; rw [← HSL.out]; go_simp; try (first | (with_reducible rfl) | omega)⟩) hS0 ?_
      refine wpAnyH_take (i := 5) (v := .agg #[.slice A2 (n - k) (c - k), .int .i64 0]) rfl (by kernel_rfl) (by kernel_rfl) (by kernel_rfl) (fun _ _ _ h => h) (Or.inl ⟨by rfl, by intro W hW; go_simp; try (first | (with_reducible rfl) | omega)⟩) hS0 ?_
      refine wpAnyH_take (i := 6) (v := .int .u64 (u : Int)) rfl (by kernel_rfl) (by kernel_rfl) (by kernel_rfl) (fun _ _ _ h => h) (Or.inl ⟨by rfl, by intro W hW; go_simp; try (first | (with_reducible rfl) | omega)⟩) hS0 ?_
      refine wpAnyH_one (i := 7) (by kernel_rfl) rfl (fun K hK => ?_)
      go_simp
      refine hK _ _ ⟨((hS0.setCell (p := ⟨w.heap.size + 1, 0, none⟩) (fun _ => rfl) _).setCell (p := ⟨w.heap.size + 1, 1, none⟩) (fun _ => rfl) _), ?_⟩; clear hK K
      refine wpAnyH_done (by kernel_rfl) ?_ _
      go_simp
      go_wp2_with fail
      exact bodyPost_ret (v := .tuple #[.int .u64 (u : Int), .agg #[.slice A2 (n - k) (c - k), .int .i64 0]]) (by simp [results, Try.results16, go_sem, z0, z1]) rfl ⟨A2, n - k, c - k, rfl, F.out _ ((hS0.setCell (p := ⟨w.heap.size + 1, 0, none⟩) (fun _ => rfl) _).setCell (p := ⟨w.heap.size + 1, 1, none⟩) (fun _ => rfl) _)⟩
    · rw [if_neg her]
      have t0 : ((er : Int) != 0) = true := by simp [her]
      have F := Lib.hid (fun W hW => HF.out W hW A n c l HS.out)
      have cF := Lib.hid (ref_fail0 A n c 0 er w0)
      have hl : w.heap.size + 1 < w0.heap.size := by omega
      clear HS HF
      unfold failM curV at cF
      rw [if_pos rfl] at cF
      unfold curV
      go_enter Try.func16, Try.ntmps16
      go_wp2_with fail
      rw [HE.out]
      refine cG.out.mono ?_
      rintro e' w' ⟨rfl, rfl⟩
      go_wp2_with fail
      refine cF.out.mono ?_
      rintro e' w1 ⟨rfl, hb1⟩
      have x0 := (hb1.cell (p := ⟨w.heap.size + 1, 0, none⟩) hl).trans z0
      have x1 := (hb1.cell (p := ⟨w.heap.size + 1, 1, none⟩) hl).trans z1
      have g0 := (hb1.frozen (p := ⟨w.heap.size + 1, 0, none⟩) hl).trans f0
      have g1 := (hb1.frozen (p := ⟨w.heap.size + 1, 1, none⟩) hl).trans f1
      have hS1 : Kp (fun j => j = w.heap.size + 1) w0 w1 := (Kp.refl _ _).ofBelow hb1
      clear hb1 cF cG
      go_wp2_with fail
      exact bodyPost_ret (v := .tuple #[.int .u64 0, .agg #[.slice A n c, .int .i64 (er : Int)]]) (by simp [results, Try.results16, go_sem, x0, x1]) rfl ⟨A, n, c, rfl, F.out _ ((hS1.setCell (p := ⟨w.heap.size + 1, 0, none⟩) (fun _ => rfl) _).setCell (p := ⟨w.heap.size + 1, 1, none⟩) (fun _ => rfl) _)⟩
  · have t0 : ((e : Int) != 0) = true := by simp [he]
    have F := Lib.hid (fun W hW => HF.out W hW A n c l HS.out)
    unfold bitsM
    rw [if_neg he]
    clear HS HF
    unfold curV
    go_enter Try.func16, Try.ntmps16
    go_wp2_with fail
    rw [HE.out]
    refine wp_region_held (S := fun W => Kp (fun j => j = w.heap.size + 1) w0 W) (by kernel_rfl) ?_
    change wpAnyH _ _ _ _ _ _ _ _ (World.drew _)
    refine wpAnyH_take (i := 0) (v := .agg #[.slice A n c, .int .i64 (e : Int)]) rfl (by kernel_rfl) (by kernel_rfl) (by kernel_rfl) (fun _ _ _ h => h) (Or.inl ⟨by rfl, by intro W hW; obtain ⟨g0, g1⟩ := HQ.out W hW; go_simp; try (first | (with_reducible rfl) | omega)⟩) hS0 ?_
    refine wpAnyH_take (i := 1) (v := .int .u64 0) rfl (by kernel_rfl) (by kernel_rfl) (by kernel_rfl) (fun _ _ _ h => h) (Or.inl ⟨by rfl, by intro W hW; go_simp; try (first | (with_reducible rfl) | omega)⟩) hS0 ?_
    refine wpAnyH_one (i := 2) (by kernel_rfl) rfl (fun K hK => ?_)
    go_simp
    refine hK _ _ ⟨((hS0.setCell (p := ⟨w.heap.size + 1, 0, none⟩) (fun _ => rfl) _).setCell (p := ⟨w.heap.size + 1, 1, none⟩) (fun _ => rfl) _), ?_⟩; clear hK K
    refine wpAnyH_done (by kernel_rfl) ?_ _
    go_simp
    go_wp2_with fail
    exact bodyPost_ret (v := .tuple #[.int .u64 0, .agg #[.slice A n c, .int .i64 (e : Int)]]) (by simp [results, Try.results16, go_sem, z0, z1]) rfl ⟨A, n, c, rfl, F.out _ ((hS0.setCell (p := ⟨w.heap.size + 1, 0, none⟩) (fun _ => rfl) _).setCell (p := ⟨w.heap.size + 1, 1, none⟩) (fun _ => rfl) _)⟩
end Go.Proofs.Ytiblcodlaeijfaa
