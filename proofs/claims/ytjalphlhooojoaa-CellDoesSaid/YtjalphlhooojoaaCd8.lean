/-
  Values: Do; the chapter's example.
-/
import Derived.Test.YtjalphlhooojoaaCd7
import Derived.Test.YtjalphlhooojoaaCd4
namespace Go.Proofs.Ytjalphlhooojoaa
open Go.RowKit
set_option linter.unusedSimpArgs false
set_option linter.unusedVariables false
attribute [local go_sem] run_store_cplx
def IsDo (op : Int) (xs : List DV) (w : World) (e : Ending) (w' : World) : Prop :=
  ((OneR op xs none ∧ e = .returned (.tuple #[.slice none 0 0, .bool false])) ∨ ∃ v g, OneR op xs (some v) ∧ e = .returned (.tuple #[.slice (some ⟨g, 0, none⟩) 1 1, .bool true]) ∧ SlV w' w'.heap.size (some ⟨g, 0, none⟩) 1 1 [v]) ∧ Below w.heap.size w w'
theorem slv_lit (W : World) (k n : Int) (x y : Nat) : SlV (W.alloc (.cells #[.int .i64 k, .int .i64 n, .complex .f64 x y] 29)) (W.alloc (.cells #[.int .i64 k, .int .i64 n, .complex .f64 x y] 29)).heap.size (some ⟨W.heap.size, 0, none⟩) 1 1 [⟨k, n, x, y⟩] :=
  SlR.of_ownN (base := W.heap.size) (e := 29) (f := cellsV) (fun _ => rfl) (by decide) (World.ownsRow_lit (base := W.heap.size) (e := 29) (size := 3) W #[.int .i64 k, .int .i64 n, .complex .f64 x y] 1 (Nat.le_refl _) (by unfold maxLen; omega) rfl) (by unfold reachBytes; omega)
set_option maxRecDepth 100000 in
set_option maxHeartbeats 1000000 in
theorem do_any (op : Int) (A : Option Addr) (n c B : Nat) (xs : List DV) (w : World) (h : Lst w B A n c xs) (hn : n ≤ 1000) :
    Calls Try.prog 7 #[.int .i64 op, .slice A n c] w (IsDo op xs w) := by
  have c1 := Lib.hid (one_any op A n c B xs w h hn)
  clear h hn
  go_enter Try.func7, Try.ntmps7
  go_wp2_with fail
  refine c1.out.mono ?_
  rintro e w1 ⟨⟨k, n, x, y⟩, ok, rfl, h1, h2, hb⟩
  have H1 := Lib.hid h1
  have H2 := Lib.hid h2
  have HB := Lib.hid hb
  clear h1 h2 hb
  unfold aggV
  cases ok
  · go_wp2_with fail
    go_ret2
    exact ⟨.inl ⟨H2.out trivial, rfl⟩, by repeat (first | exact HB.out | (refine Below.setCell ?_ (by have := HB.out.size; simp; omega) _) | (refine Below.alloc ?_ (by have := HB.out.size; simp; omega) _))⟩
  · go_wp2_with fail
    go_ret2
    exact ⟨.inr ⟨_, _, H1.out trivial, rfl, by have := slv_lit (w1.alloc (.cells #[.int .i64 k, .int .i64 n, .complex .f64 x y] 29)) k n x y; simpa using this⟩, by repeat (first | exact HB.out | (refine Below.setCell ?_ (by have := HB.out.size; simp; omega) _) | (refine Below.alloc ?_ (by have := HB.out.size; simp; omega) _))⟩
theorem ta_np (n : Int) : ∀ w, (Instr.typeAssert (.iface 58 (.int .i64 n)) 56 59 true).run Try.prog w = .ok (.tuple #[.complex .f64 0 0, .bool false]) w := fun _ => by kernel_rfl
theorem ta_pn (x y : Nat) : ∀ w, (Instr.typeAssert (.iface 59 (.complex .f64 x y)) 56 58 true).run Try.prog w = .ok (.tuple #[.int .i64 0, .bool false]) w := fun _ => by kernel_rfl
theorem ta_pp (x y : Nat) : ∀ w, (Instr.typeAssert (.iface 59 (.complex .f64 x y)) 56 59 true).run Try.prog w = .ok (.tuple #[.complex .f64 x y, .bool true]) w := fun _ => by kernel_rfl
set_option maxRecDepth 100000 in
theorem same_num (n m : Int) (w : World) : Calls Try.prog 14 #[vV 1 n 0 0, vV 1 m 0 0] w fun e w' => e = .returned (.bool (n == m)) ∧ Below w.heap.size w w' := by
  have hta := ta_np n
  have c : Hid (∀ w : World, Calls Try.prog 25 #[vV 1 n 0 0] w fun e w' => e = .returned (.iface 58 (.int .i64 n)) ∧ Below w.heap.size w w') := Lib.hid fun w => of_any 1 n 0 0 w
  go_enter Try.func14, Try.ntmps14
  go_wp2_with fail
  refine (c.out _).mono ?_
  rintro e w1 ⟨rfl, hb⟩
  have hbw : Below w.heap.size w w1 := (((Below.refl _ _).alloc (Nat.le_refl _) _).alloc (by simp) _).trans (hb.mono (by simp; omega))
  have k : ∀ (p : Addr), p.block < ((w.alloc (.cells #[.int .i64 1, .int .i64 n, .complex .f64 0 0] 29)).alloc (.cells #[.int .i64 1, .int .i64 m, .complex .f64 0 0] 29)).heap.size → w1.cell? p = ((w.alloc (.cells #[.int .i64 1, .int .i64 n, .complex .f64 0 0] 29)).alloc (.cells #[.int .i64 1, .int .i64 m, .complex .f64 0 0] 29)).cell? p := fun p hp => hb.cell hp
  have e0 : w1.cell? ⟨w.heap.size, 1, none⟩ = some (.int .i64 n) := by rw [k _ (by simp; omega)]; simp [go_sem]
  have e1 : w1.cell? ⟨w.heap.size + 1, 1, none⟩ = some (.int .i64 m) := by rw [k _ (by simp)]; simp [go_sem]
  have HBW := Lib.hid hbw
  clear hb hbw k
  go_wp2_with fail
  go_ret
  exact ⟨rfl, HBW.out⟩
theorem dig_1 (w : World) : Calls Try.prog 28 #[.int .i64 1] w fun e w' => e = .returned (.string { data := #[49] }) ∧ Below w.heap.size w w' := by
  have h := iDigits_any 1 (by decide) (by decide) w
  have e : strU (digM 1) = { data := #[49] } := by unfold digM; rw [if_pos (by decide), show (1 : Int).natAbs = 1 from rfl, dg_lt (by decide)]; rfl
  rw [e] at h
  exact h
theorem dig_m2 (w : World) : Calls Try.prog 28 #[.int .i64 (-2)] w fun e w' => e = .returned (.string { data := #[45, 50] }) ∧ Below w.heap.size w w' := by
  have h := iDigits_any (-2) (by decide) (by decide) w
  have e : strU (digM (-2)) = { data := #[45, 50] } := by unfold digM; rw [if_neg (by decide), show (-2 : Int).natAbs = 2 from rfl, dg_lt (by decide)]; rfl
  rw [e] at h
  exact h
theorem part_1 (w : World) : Calls Try.prog 29 #[.int .i64 19, .complex .f64 (nr 1) (nr (-2))] w fun e w' => e = .returned (.int .i64 1) ∧ w = w' := by
  have e : partOf 19 (nr 1) (nr (-2)) = 1 := by kernel_rfl
  have h := part_any 19 (nr 1) (nr (-2)) w
  rw [e] at h
  exact h
theorem part_m2 (w : World) : Calls Try.prog 29 #[.int .i64 20, .complex .f64 (nr 1) (nr (-2))] w fun e w' => e = .returned (.int .i64 (-2)) ∧ w = w' := by
  have e : partOf 20 (nr 1) (nr (-2)) = -2 := by kernel_rfl
  have h := part_any 20 (nr 1) (nr (-2)) w
  rw [e] at h
  exact h
set_option maxRecDepth 100000 in
theorem text_pt (w : World) : Calls Try.prog 15 #[vV 2 0 (nr 1) (nr (-2))] w fun e w' => e = .returned (.string { data := #[40, 49, 44, 45, 50, 41] }) ∧ Below w.heap.size w w' := by
  have c1 := Lib.hid part_1
  have c2 := Lib.hid part_m2
  obtain ⟨x, hx⟩ : ∃ x, nr 1 = x := ⟨_, rfl⟩
  obtain ⟨y, hy⟩ : ∃ y, nr (-2) = y := ⟨_, rfl⟩
  rw [hx, hy] at c1 c2 ⊢
  clear hx hy
  have hta := ta_pn x y
  have htb := ta_pp x y
  have c : Hid (∀ w : World, Calls Try.prog 25 #[vV 2 0 x y] w fun e w' => e = .returned (.iface 59 (.complex .f64 x y)) ∧ Below w.heap.size w w') := Lib.hid fun w => of_any 2 0 x y w
  go_enter Try.func15, Try.ntmps15
  go_wp2_with fail
  refine (c.out _).mono ?_
  rintro e w1 ⟨rfl, hb⟩
  have HBW : Hid (Below w.heap.size w w1) := Lib.hid (((Below.refl _ _).alloc (Nat.le_refl _) _).trans (hb.mono (by simp)))
  clear hb
  go_wp2_with fail
  refine (c1.out _).mono ?_
  rintro e w2 ⟨rfl, rfl⟩
  go_wp2_with fail
  refine (dig_1 _).mono ?_
  rintro e w2 ⟨rfl, hb⟩
  have HB2 := Lib.hid (bl_trans HBW.out HBW.out.size hb)
  clear hb
  go_wp2_with fail
  refine (c2.out _).mono ?_
  rintro e w2 ⟨rfl, rfl⟩
  go_wp2_with fail
  refine (dig_m2 _).mono ?_
  rintro e w3 ⟨rfl, hb⟩
  have HB3 := Lib.hid (bl_trans HB2.out HB2.out.size hb)
  clear hb
  go_wp2_with fail
  go_ret
  exact ⟨rfl, HB3.out⟩
set_option maxRecDepth 100000 in
set_option maxHeartbeats 2000000 in
theorem lst_lives (w : World) : Lst (w.alloc (.cells #[.int .i64 1, .int .i64 1, .complex .f64 0 0, .int .i64 1, .int .i64 2, .complex .f64 0 0] 29)) (w.heap.size + 1) (some ⟨w.heap.size, 0, none⟩) 2 2 [⟨1, 1, 0, 0⟩, ⟨1, 2, 0, 0⟩] :=
  ⟨by
    have := SlR.of_ownN (base := w.heap.size) (e := 29) (f := cellsV) (xs := [⟨1, 1, 0, 0⟩, ⟨1, 2, 0, 0⟩]) (bytes := 32) (fun _ => rfl) (by decide) (World.ownsRow_lit (base := w.heap.size) (e := 29) (size := 3) w #[.int .i64 1, .int .i64 1, .complex .f64 0 0, .int .i64 1, .int .i64 2, .complex .f64 0 0] 2 (Nat.le_refl _) (by unfold maxLen; omega) rfl) (by unfold reachBytes; omega)
    simpa using this, by simp, fun ad h => ⟨w.heap.size, by injection h with h; exact h.symm⟩⟩
theorem one_add {r : Option DV} (h : OneR 6 [⟨1, 1, 0, 0⟩, ⟨1, 2, 0, 0⟩] r) : r = some ⟨1, 3, 0, 0⟩ := by
  cases h with
  | pair a b h => exact absurd h (by decide)
  | two a b r i h => exact absurd h (by decide)
  | part a h => exact absurd h (by decide)
  | w1 a h h2 => simp at h2
  | w2 a b h h2 h3 h4 h5 =>
    simp at h2
    obtain ⟨rfl, rfl⟩ := h2
    kernel_rfl
  | w2n a b h h2 h3 h4 h5 =>
    simp at h2
    obtain ⟨rfl, rfl⟩ := h2
    exact absurd h5 (by decide)
  | no h => exact absurd h (by decide)
set_option maxRecDepth 100000 in
set_option maxHeartbeats 2000000 in
theorem cell_lives (w : World) : Calls Try.prog 5 #[] w fun e w' => e = .returned (.bool true) ∧ Below w.heap.size w w' := by
  go_enter Try.func5, Try.ntmps5
  go_wp2_with fail
  refine (num_any 1 _).mono ?_
  rintro e w1 ⟨rfl, hb1⟩
  have HB1 := Lib.hid hb1
  clear hb1
  go_wp2_with fail
  refine (num_any 2 _).mono ?_
  rintro e w2 ⟨rfl, hb2⟩
  have HB2 := Lib.hid (bl_trans HB1.out HB1.out.size hb2)
  clear hb2 HB1
  go_wp2_with fail
  refine (do_any 6 _ 2 2 _ _ _ (lst_lives w2) (by decide)).mono ?_
  rintro e w3 ⟨hd, hb3⟩
  have HB3 : Hid (Below w.heap.size w w3) := Lib.hid ((HB2.out.alloc HB2.out.size _).trans (hb3.mono (by have := HB2.out.size; simp; omega)))
  clear hb3 HB2
  rcases hd with ⟨h, _⟩ | ⟨v, g, h, rfl, hs⟩
  · cases one_add h
  have e := one_add h
  injection e with e
  subst e
  obtain ⟨b', off, v, e, hb, hx, p0, p1, p2⟩ := slv_at hs (show 0 < 1 by omega)
  simp at e hx
  obtain ⟨rfl, rfl⟩ := e
  subst hx
  simp only [Nat.zero_mul, Nat.add_zero, Nat.zero_add] at p0 p1 p2
  clear hs h
  have HQ : Hid (∀ W : World, Below w3.heap.size w3 W → W.cell? ⟨g, 0, none⟩ = some (.int .i64 1) ∧ W.cell? ⟨g, 1, none⟩ = some (.int .i64 3) ∧ W.cell? ⟨g, 2, none⟩ = some (.complex .f64 0 0)) := Lib.hid fun W hW => ⟨(hW.cell hb).trans p0, (hW.cell hb).trans p1, (hW.cell hb).trans p2⟩
  clear p0 p1 p2 hb
  go_wp2_with fail
  refine wp_region_held (S := fun W => Below w3.heap.size w3 W) (by kernel_rfl) ?_
  change wpAnyH _ _ _ _ _ _ _ _ (World.drew _)
  have hS0 : Below w3.heap.size w3 w3.drew := (Below.refl _ _).drew
  refine wpAnyH_take (i := 0) (v := .bool true) rfl (by kernel_rfl) (by kernel_rfl) (by kernel_rfl) (fun _ _ _ h => h) (Or.inl ⟨by rfl, by intro W hW; go_simp; try (first | (with_reducible rfl) | omega)⟩) hS0 ?_
  refine wpAnyH_take (i := 1) (v := .bool true) rfl (by kernel_rfl) (by kernel_rfl) (by kernel_rfl) (fun _ _ _ h => h) (Or.inl ⟨by rfl, by intro W hW; go_simp; try (first | (with_reducible rfl) | omega)⟩) hS0 ?_
  refine wpAnyH_take (i := 2) (v := .slice (some ⟨g, 0, none⟩) 1 1) rfl (by kernel_rfl) (by kernel_rfl) (by kernel_rfl) (fun _ _ _ h => h) (Or.inl ⟨by kernel_rfl, by intro W hW; go_simp; try (first | (with_reducible rfl) | omega)⟩) hS0 ?_
  refine wpAnyH_take (i := 3) (v := .int .i64 1) rfl (by kernel_rfl) (by kernel_rfl) (by kernel_rfl) (fun _ _ _ h => h) (Or.inl ⟨by kernel_rfl, by intro W hW; go_simp; try (first | (with_reducible rfl) | omega)⟩) hS0 ?_
  refine wpAnyH_take (i := 4) (v := .bool true) rfl (by kernel_rfl) (by kernel_rfl) (by kernel_rfl) (fun _ _ _ h => h) (Or.inl ⟨by kernel_rfl, by intro W hW; go_simp; try (first | (with_reducible rfl) | omega)⟩) hS0 ?_
  refine wpAnyH_take (i := 5) (v := .bool true) rfl (by kernel_rfl) (by kernel_rfl) (by kernel_rfl) (fun _ _ _ h => h) (Or.inl ⟨by rfl, by intro W hW; go_simp; try (first | (with_reducible rfl) | omega)⟩) hS0 ?_
  refine wpAnyH_take (i := 6) (v := .bool true) rfl (by kernel_rfl) (by kernel_rfl) (by kernel_rfl) (fun _ _ _ h => h) (Or.inl ⟨by rfl, by intro W hW; go_simp; try (first | (with_reducible rfl) | omega)⟩) hS0 ?_
  refine wpAnyH_take (i := 7) (v := .slice (some ⟨g, 0, none⟩) 1 1) rfl (by kernel_rfl) (by kernel_rfl) (by kernel_rfl) (fun _ _ _ h => h) (Or.inl ⟨by kernel_rfl, by intro W hW; go_simp; try (first | (with_reducible rfl) | omega)⟩) hS0 ?_
  refine wpAnyH_take (i := 8) (v := .pointer (some ⟨g, 0, none⟩)) rfl (by kernel_rfl) (by kernel_rfl) (by kernel_rfl) (fun _ _ _ h => h) (Or.inl ⟨by kernel_rfl, by intro W hW; go_simp; try (first | (with_reducible rfl) | omega)⟩) hS0 ?_
  refine wpAnyH_take (i := 9) (v := vV 1 3 0 0) rfl (by kernel_rfl) (by kernel_rfl) (by kernel_rfl) (fun _ _ _ h => h) (Or.inl ⟨by kernel_rfl, by intro W hW; obtain ⟨g0, g1, g2⟩ := HQ.out W hW; go_simp; try (first | (with_reducible rfl) | omega)⟩) hS0 ?_
  refine wpAnyH_one (i := 10) (by kernel_rfl) rfl (fun K hK => ?_)
  go_simp
  refine Calls.mono (Lib.hid (num_any 3 _)).out ?_
  rintro e w4 ⟨rfl, hb4⟩
  have hS4 := bl_trans hS0 hS0.size hb4
  go_simp
  refine hK _ _ ⟨hS4, ?_⟩; clear hK K
  refine wpAnyH_one (i := 11) (by kernel_rfl) rfl (fun K hK => ?_)
  go_simp
  refine Calls.mono (Lib.hid (same_num 3 3 _)).out ?_
  rintro e w5 ⟨rfl, hb5⟩
  have hS5 := bl_trans hS4 hS4.size hb5
  go_simp
  refine hK _ _ ⟨hS5, ?_⟩; clear hK K
  refine wpAnyH_take (i := 12) (v := .bool true) rfl (by kernel_rfl) (by kernel_rfl) (by kernel_rfl) (fun _ _ _ h => h) (Or.inl ⟨by rfl, by intro W hW; go_simp; try (first | (with_reducible rfl) | omega)⟩) hS5 ?_
  refine wpAnyH_take (i := 13) (v := .bool true) rfl (by kernel_rfl) (by kernel_rfl) (by kernel_rfl) (fun _ _ _ h => h) (Or.inl ⟨by rfl, by intro W hW; go_simp; try (first | (with_reducible rfl) | omega)⟩) hS5 ?_
  refine wpAnyH_one (i := 14) (by kernel_rfl) rfl (fun K hK => ?_)
  go_simp
  refine Calls.mono (Lib.hid (refPair_any 1 (-2) _)).out ?_
  rintro e w6 ⟨rfl, rfl⟩
  go_simp
  refine hK _ _ ⟨hS5, ?_⟩; clear hK K
  refine wpAnyH_one (i := 15) (by kernel_rfl) rfl (fun K hK => ?_)
  go_simp
  refine Calls.mono (Lib.hid (point_any (nr 1) (nr (-2)) _)).out ?_
  rintro e w6 ⟨rfl, hb6⟩
  have hS6 := bl_trans hS5 hS5.size hb6
  go_simp
  refine hK _ _ ⟨hS6, ?_⟩; clear hK K
  refine wpAnyH_one (i := 16) (by kernel_rfl) rfl (fun K hK => ?_)
  go_simp
  refine Calls.mono (Lib.hid (text_pt _)).out ?_
  rintro e w7 ⟨rfl, hb7⟩
  have hS7 := bl_trans hS6 hS6.size hb7
  go_simp
  refine hK _ _ ⟨hS7, ?_⟩; clear hK K
  refine wpAnyH_take (i := 17) (v := .bool true) rfl (by kernel_rfl) (by kernel_rfl) (by kernel_rfl) (fun _ _ _ h => h) (Or.inl ⟨by kernel_rfl, by intro W hW; go_simp; try (first | (with_reducible rfl) | omega)⟩) hS7 ?_
  refine wpAnyH_take (i := 18) (v := .bool true) rfl (by kernel_rfl) (by kernel_rfl) (by kernel_rfl) (fun _ _ _ h => h) (Or.inl ⟨by rfl, by intro W hW; go_simp; try (first | (with_reducible rfl) | omega)⟩) hS7 ?_
  refine wpAnyH_take (i := 19) (v := .bool true) rfl (by kernel_rfl) (by kernel_rfl) (by kernel_rfl) (fun _ _ _ h => h) (Or.inl ⟨by rfl, by intro W hW; go_simp; try (first | (with_reducible rfl) | omega)⟩) hS7 ?_
  refine wpAnyH_done (by kernel_rfl) ?_ _
  go_wp2_with fail
  go_ret
  exact ⟨rfl, bl_trans HB3.out HB3.out.size hS7⟩
end Go.Proofs.Ytjalphlhooojoaa
