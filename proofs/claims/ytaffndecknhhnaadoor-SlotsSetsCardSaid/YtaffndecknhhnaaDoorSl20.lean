/-
  Sets of slots: one slot less; the walk of SlotsHas.
-/
import Derived.Test.YtaffndecknhhnaaDoorSl15
import Derived.Test.YtaffndecknhhnaaDoorSl17
import Derived.Test.YtaffndecknhhnaaDoorSl18
namespace Go.Proofs.YtaffndecknhhnaaDoor
open Go.RowKit
set_option linter.unusedSimpArgs false
set_option linter.unusedVariables false
theorem fU_zero {a : Nat} (h : a < 18446744073709551616) : fU (a : Int) 0 = (a : Int) := by
  have h1 : (BitVec.ofInt 64 (a : Int)).toNat = a := by
    rw [BitVec.ofInt_natCast, BitVec.toNat_ofNat]; exact Nat.mod_eq_of_lt (by omega)
  show IntKind.u64.wrap ((BitVec.ofInt 64 (a : Int) &&& ~~~ BitVec.ofInt 64 0).toNat : Int) = _
  have e : (BitVec.ofInt 64 (a : Int) &&& ~~~ BitVec.ofInt 64 0) = BitVec.ofInt 64 (a : Int) := by
    have : ~~~ BitVec.ofInt 64 0 = BitVec.allOnes 64 := by decide
    rw [this, BitVec.and_allOnes]
  rw [e, h1, IntKind.wrap_u64]
  omega
theorem oU_nat {a b : Nat} (ha : a < 18446744073709551616) (hb : b < 18446744073709551616) : oU (a : Int) (b : Int) = ((a ||| b : Nat) : Int) := bits_or_u64_nat a b ha hb
abbrev oneW (n : Int) : W4 := withM zW n
theorem oneW_ok (n : Int) : (oneW n).Ok := withM_ok zW_ok n
def orW (s t : W4) : W4 := ⟨s.a0 ||| t.a0, s.a1 ||| t.a1, s.a2 ||| t.a2, s.a3 ||| t.a3⟩
theorem orW_get (s t : W4) (q : Nat) (hq : q < 4) : (orW s t).get q = s.get q ||| t.get q := by
  rcases (show q = 0 ∨ q = 1 ∨ q = 2 ∨ q = 3 by omega) with rfl | rfl | rfl | rfl <;> rfl
theorem zW_get (q : Nat) : zW.get q = 0 := by unfold zW W4.get; simp
theorem orW_one (s : W4) (n : Int) : orW s (oneW n) = withM s n := by
  unfold oneW
  by_cases hn : 0 ≤ n ∧ n < 256
  · obtain ⟨m, rfl⟩ : ∃ m : Nat, n = (m : Int) := ⟨n.toNat, by omega⟩
    have hm : m < 256 := by omega
    apply W4.eq_of_get
    intro q hq
    rw [orW_get _ _ q hq, withM_in hm, withM_in hm, W4.get_put (by omega) q hq, W4.get_put (by omega) q hq, zW_get, zW_get]
    split
    · rename_i e; rw [e, Nat.zero_or]
    · rw [Nat.or_zero]
  · rw [withM_out hn, withM_out hn]
    apply W4.eq_of_get
    intro q hq
    rw [orW_get _ _ q hq, zW_get, Nat.or_zero]
theorem ror_any (s t : W4) (hs : s.Ok) (ht : t.Ok) (w : World) : Calls Tryd.prog 12 #[aggW s, aggW t] w (IsW (orW s t) w) := by
  have c := refOr_any s.a0 s.a1 s.a2 s.a3 t.a0 t.a1 t.a2 t.a3 w
  rw [oU_nat hs.h0 ht.h0, oU_nat hs.h1 ht.h1, oU_nat hs.h2 ht.h2, oU_nat hs.h3 ht.h3] at c
  exact c
theorem por_any (s t : W4) (hs : s.Ok) (ht : t.Ok) (w : World) : Calls Tryd.prog 16 #[aggW s, aggW t] w (IsW (orW s t) w) := by
  have c := or_any s.a0 s.a1 s.a2 s.a3 t.a0 t.a1 t.a2 t.a3 w
  rw [oU_nat hs.h0 ht.h0, oU_nat hs.h1 ht.h1, oU_nat hs.h2 ht.h2, oU_nat hs.h3 ht.h3] at c
  exact c
set_option maxRecDepth 100000 in
theorem without_out (s : W4) (n : Int) (h : ¬ (0 ≤ n ∧ n < 256)) (w : World) : Calls Tryd.prog 13 #[aggW s, .int .i64 n] w (IsW s w) := by
  have hi := is_out n h
  go_enter Tryd.func13, Tryd.ntmps13
  go_wp2_with fail
  refine (hi _).mono ?_
  rintro e w1 ⟨rfl, rfl⟩
  go_wp2_with fail
  exact bodyPost_ret (v := aggW s) (by simp [results, Tryd.results13, go_sem]) rfl ⟨rfl, by repeat (first | exact Below.refl _ _ | (refine Below.setCell ?_ (by simp) _) | (refine Below.alloc ?_ (by simp) _))⟩
theorem one_pow (r : Nat) : (((0 ||| 2 ^ r : Nat)) : Int) = 2 ^ r := by rw [Nat.zero_or]; simp
theorem without_any (s : W4) (h : s.Ok) (n : Int) (w : World) : Calls Tryd.prog 13 #[aggW s, .int .i64 n] w (IsAgg (fU s.a0 (oneW n).a0) (fU s.a1 (oneW n).a1) (fU s.a2 (oneW n).a2) (fU s.a3 (oneW n).a3) w) := by
  unfold oneW
  by_cases hn : 0 ≤ n ∧ n < 256
  · obtain ⟨m, rfl⟩ : ∃ m : Nat, n = (m : Int) := ⟨n.toNat, by omega⟩
    have hm : m < 256 := by omega
    rw [withM_in hm]
    have hr : m % 64 < 64 := Nat.mod_lt _ (by decide)
    have z0 := fU_zero h.h0
    have z1 := fU_zero h.h1
    have z2 := fU_zero h.h2
    have z3 := fU_zero h.h3
    rw [zW_get]
    rcases (show m / 64 = 0 ∨ m / 64 = 1 ∨ m / 64 = 2 ∨ m / 64 = 3 by omega) with hq | hq | hq | hq
    · have c := without_w0 s.a0 s.a1 s.a2 s.a3 (m % 64) hr w
      rw [show 0 + m % 64 = m by omega, ← one_pow (m % 64)] at c
      rw [hq]
      show Calls _ _ _ _ (IsAgg (fU s.a0 ((0 ||| 2 ^ (m % 64) : Nat) : Int)) (fU s.a1 0) (fU s.a2 0) (fU s.a3 0) w)
      rw [z1, z2, z3]
      exact c
    · have c := without_w1 s.a0 s.a1 s.a2 s.a3 (m % 64) hr w
      rw [show 64 + m % 64 = m by omega, ← one_pow (m % 64)] at c
      rw [hq]
      show Calls _ _ _ _ (IsAgg (fU s.a0 0) (fU s.a1 ((0 ||| 2 ^ (m % 64) : Nat) : Int)) (fU s.a2 0) (fU s.a3 0) w)
      rw [z0, z2, z3]
      exact c
    · have c := without_w2 s.a0 s.a1 s.a2 s.a3 (m % 64) hr w
      rw [show 128 + m % 64 = m by omega, ← one_pow (m % 64)] at c
      rw [hq]
      show Calls _ _ _ _ (IsAgg (fU s.a0 0) (fU s.a1 0) (fU s.a2 ((0 ||| 2 ^ (m % 64) : Nat) : Int)) (fU s.a3 0) w)
      rw [z0, z1, z3]
      exact c
    · have c := without_w3 s.a0 s.a1 s.a2 s.a3 (m % 64) hr w
      rw [show 192 + m % 64 = m by omega, ← one_pow (m % 64)] at c
      rw [hq]
      show Calls _ _ _ _ (IsAgg (fU s.a0 0) (fU s.a1 0) (fU s.a2 0) (fU s.a3 ((0 ||| 2 ^ (m % 64) : Nat) : Int)) w)
      rw [z0, z1, z2]
      exact c
  · rw [withM_out hn]
    show Calls _ _ _ _ (IsAgg (fU s.a0 0) (fU s.a1 0) (fU s.a2 0) (fU s.a3 0) w)
    rw [fU_zero h.h0, fU_zero h.h1, fU_zero h.h2, fU_zero h.h3]
    exact without_out s n hn w
set_option maxRecDepth 100000 in
set_option maxHeartbeats 8000000 in
theorem slotsHas_few (s : W4) (hok : s.Ok) (n : Int) (hn : (Lit.int .i64 n).wf = true) (A : Option Addr) (ln lc : Nat) (xs : List Int) (w : World) (hl : SlR 1 8 (RInt .i64) w w.heap.size A ln lc xs) (h100 : ln ≤ 100) (hT : Tab w) (hw0 : 0 < w.heap.size) : Calls Tryd.prog 3 #[aggW s, .int .i64 n, .slice A ln lc] w fun e w' => e = .returned (.bool true) ∧ Below w.heap.size w w' := by
  obtain ⟨w1, hw1⟩ : ∃ w1, w.alloc (.cells #[.int .u64 (s.a0 : Int), .int .u64 (s.a1 : Int), .int .u64 (s.a2 : Int), .int .u64 (s.a3 : Int)] 24) = w1 := ⟨_, rfl⟩
  have hb1 : Below w.heap.size w w1 := by rw [← hw1]; exact bl_one _
  have hs1 : w1.heap.size = w.heap.size + 1 := by rw [← hw1]; simp
  have EA : Hid (∀ W, Below w1.heap.size w1 W → W.cell? ⟨w.heap.size, 0, none⟩ = some (.int .u64 (s.a0 : Int)) ∧ W.cell? ⟨w.heap.size, 1, none⟩ = some (.int .u64 (s.a1 : Int)) ∧ W.cell? ⟨w.heap.size, 2, none⟩ = some (.int .u64 (s.a2 : Int)) ∧ W.cell? ⟨w.heap.size, 3, none⟩ = some (.int .u64 (s.a3 : Int))) := Lib.hid fun W hW => by
    have hl : w.heap.size < w1.heap.size := by omega
    have g : ∀ q, q < 4 → W.cell? ⟨w.heap.size, q, none⟩ = some (.int .u64 (s.get q : Int)) := fun q hq => (hW.cell (p := ⟨w.heap.size, q, none⟩) hl).trans (by rw [← hw1]; exact set_new w s q hq)
    exact ⟨g 0 (by omega), g 1 (by omega), g 2 (by omega), g 3 (by omega)⟩
  have co : Hid (∀ w : World, Calls Tryd.prog 8 #[.slice (some ⟨w.heap.size, 0, none⟩) 1 1] (w.alloc (.cells #[.int .i64 n] 3)) (IsW (oneW n) (w.alloc (.cells #[.int .i64 n] 3)))) := Lib.hid fun w =>
    rof_any (some ⟨w.heap.size, 0, none⟩) 1 1 (w.heap.size + 1) [n] (w.alloc (.cells #[.int .i64 n] 3)) (sl_lit w [n] _ rfl (by simp) (by intro x hx; simp at hx; subst hx; exact hn)) (by simp) (by omega)
  have g1 : ln ≤ 9223372036854775807 := by omega
  have g2 : ¬ (100 : Int) < (ln : Int) := by omega
  have HE := Lib.hid hw1
  have HB1 := Lib.hid hb1
  go_enter Tryd.func3, Tryd.ntmps3
  go_wp2_with fail
  have co1 := co.out w1
  rw [hs1] at co1
  refine co1.mono ?_
  rintro e w2 ⟨rfl, hb2⟩
  have hb12 : Below w1.heap.size w1 w2 := bl_trans (bl_one _) (by simp) hb2
  obtain ⟨w3, hw3⟩ : ∃ w3, w2.alloc (.cells #[.int .u64 ((oneW n).a0 : Int), .int .u64 ((oneW n).a1 : Int), .int .u64 ((oneW n).a2 : Int), .int .u64 ((oneW n).a3 : Int)] 24) = w3 := ⟨_, rfl⟩
  have hb13 : Below w1.heap.size w1 w3 := by rw [← hw3]; exact hb12.alloc hb12.size _
  have hs3 : w3.heap.size = w2.heap.size + 1 := by rw [← hw3]; simp
  have hbw3 : Below w.heap.size w w3 := HB1.out.trans (hb13.mono HB1.out.size)
  have hup : ∀ W, Below w3.heap.size w3 W → Below w.heap.size w W := fun W hW => hbw3.trans (hW.mono hbw3.size)
  have EO : Hid (∀ W, Below w3.heap.size w3 W → W.cell? ⟨w2.heap.size, 0, none⟩ = some (.int .u64 ((oneW n).a0 : Int)) ∧ W.cell? ⟨w2.heap.size, 1, none⟩ = some (.int .u64 ((oneW n).a1 : Int)) ∧ W.cell? ⟨w2.heap.size, 2, none⟩ = some (.int .u64 ((oneW n).a2 : Int)) ∧ W.cell? ⟨w2.heap.size, 3, none⟩ = some (.int .u64 ((oneW n).a3 : Int))) := Lib.hid fun W hW => by
    have hl : w2.heap.size < w3.heap.size := by omega
    have g : ∀ q, q < 4 → W.cell? ⟨w2.heap.size, q, none⟩ = some (.int .u64 ((oneW n).get q : Int)) := fun q hq => (hW.cell (p := ⟨w2.heap.size, q, none⟩) hl).trans (by rw [← hw3]; exact set_new w2 (oneW n) q hq)
    exact ⟨g 0 (by omega), g 1 (by omega), g 2 (by omega), g 3 (by omega)⟩
  have ES : Hid (∀ W, Below w3.heap.size w3 W → W.cell? ⟨w.heap.size, 0, none⟩ = some (.int .u64 (s.a0 : Int)) ∧ W.cell? ⟨w.heap.size, 1, none⟩ = some (.int .u64 (s.a1 : Int)) ∧ W.cell? ⟨w.heap.size, 2, none⟩ = some (.int .u64 (s.a2 : Int)) ∧ W.cell? ⟨w.heap.size, 3, none⟩ = some (.int .u64 (s.a3 : Int))) := Lib.hid fun W hW => EA.out W (hb13.trans (hW.mono hb13.size))
  have c1 := Lib.hid (fun w => has_any s hok n w)
  have c2 := Lib.hid (fun w => rhas_any s hok n w)
  have c3 := Lib.hid (fun w => with_any s hok n w)
  have c4 := Lib.hid (fun w => ror_any s (oneW n) hok (oneW_ok n) w)
  have c5 := Lib.hid (fun w => without_any s hok n w)
  have c6 := Lib.hid (fun w => refSub_any s.a0 s.a1 s.a2 s.a3 (oneW n).a0 (oneW n).a1 (oneW n).a2 (oneW n).a3 w)
  have c7 : Hid (∀ W, Below w3.heap.size w3 W → Calls Tryd.prog 15 #[.slice A ln lc] W (IsW (foldW zW xs) W)) := Lib.hid fun W hW => of_any A ln lc w.heap.size xs W (SlR.below (stable_int _) hl (hup W hW)) (hup W hW).size (by omega)
  have c8 : Hid (∀ W, Below w3.heap.size w3 W → Calls Tryd.prog 8 #[.slice A ln lc] W (IsW (foldW zW xs) W)) := Lib.hid fun W hW => rof_any A ln lc w.heap.size xs W (SlR.below (stable_int _) hl (hup W hW)) (hup W hW).size (by omega)
  have c9 : Hid (∀ W, Below w3.heap.size w3 W → Calls Tryd.prog 7 #[] W fun e w' => e = .returned (.bool true) ∧ Below W.heap.size W w') := Lib.hid fun W hW => slots_lives W (hT.below (hup W hW) hw0) (by have := (hup W hW).size; omega)
  rw [orW_one] at c4
  have HN : Hid (IsAgg = IsAgg) := Lib.hid rfl
  generalize memM s n = v at *
  generalize withM s n = R at *
  generalize foldW zW xs = F at *
  generalize fU (s.a0 : Int) ((oneW n).a0 : Int) = k0 at *
  generalize fU (s.a1 : Int) ((oneW n).a1 : Int) = k1 at *
  generalize fU (s.a2 : Int) ((oneW n).a2 : Int) = k2 at *
  generalize fU (s.a3 : Int) ((oneW n).a3 : Int) = k3 at *
  generalize oneW n = O at *
  have heq1 : ∀ W, (Op.equalIn 10000 24 (aggU (R.a0 : Int) (R.a1 : Int) (R.a2 : Int) (R.a3 : Int)) (aggU (R.a0 : Int) (R.a1 : Int) (R.a2 : Int) (R.a3 : Int))).run Tryd.prog W = .ok true W := fun W => by
    have := eq_arr 9998 (R.a0 : Int) (R.a1 : Int) (R.a2 : Int) (R.a3 : Int) (R.a0 : Int) (R.a1 : Int) (R.a2 : Int) (R.a3 : Int) W
    simpa using this
  have heq2 : ∀ W, (Op.equalIn 10000 24 (aggU (F.a0 : Int) (F.a1 : Int) (F.a2 : Int) (F.a3 : Int)) (aggU (F.a0 : Int) (F.a1 : Int) (F.a2 : Int) (F.a3 : Int))).run Tryd.prog W = .ok true W := fun W => by
    have := eq_arr 9998 (F.a0 : Int) (F.a1 : Int) (F.a2 : Int) (F.a3 : Int) (F.a0 : Int) (F.a1 : Int) (F.a2 : Int) (F.a3 : Int) W
    simpa using this
  have heq3 : ∀ W, (Op.equalIn 10000 24 (aggU k0 k1 k2 k3) (aggU k0 k1 k2 k3)).run Tryd.prog W = .ok true W := fun W => by
    have := eq_arr 9998 k0 k1 k2 k3 k0 k1 k2 k3 W
    simpa using this
  have hguard := eq_guard
  have tv : (v == v) = true := by simp
  have HE3 := Lib.hid hw3
  have HB3 := Lib.hid hbw3
  have hS0 : Below w3.heap.size w3 w3.drew := (Below.refl _ _).drew
  clear hw1 hb1 hs1 hb2 hb12 hb13 hs3 hbw3 hup hl co co1
  go_wp2_with fail
  refine wp_region_held (S := fun W => Below w3.heap.size w3 W) (by kernel_rfl) ?_
  change wpAnyH _ _ _ _ _ _ _ _ (World.drew _)

  refine wpAnyH_take (i := 0) (v := aggW s) rfl (by kernel_rfl) (by kernel_rfl) (by kernel_rfl) (fun _ _ _ h => h) (Or.inl ⟨by rfl, by intro W hW; obtain ⟨a0, a1, a2, a3⟩ := ES.out W hW; go_simp; try (first | (with_reducible rfl) | omega)⟩) hS0 ?_
  refine wpAnyH_take (i := 1) (v := .int .i64 n) rfl (by kernel_rfl) (by kernel_rfl) (by kernel_rfl) (fun _ _ _ h => h) (Or.inl ⟨by rfl, by intro W hW; go_simp; try (first | (with_reducible rfl) | omega)⟩) hS0 ?_
  refine wpAnyH_take (i := 3) (v := aggW s) rfl (by kernel_rfl) (by kernel_rfl) (by kernel_rfl) (fun _ _ _ h => h) (Or.inl ⟨by rfl, by intro W hW; obtain ⟨a0, a1, a2, a3⟩ := ES.out W hW; go_simp; try (first | (with_reducible rfl) | omega)⟩) hS0 ?_
  refine wpAnyH_take (i := 4) (v := .int .i64 n) rfl (by kernel_rfl) (by kernel_rfl) (by kernel_rfl) (fun _ _ _ h => h) (Or.inl ⟨by rfl, by intro W hW; go_simp; try (first | (with_reducible rfl) | omega)⟩) hS0 ?_
  refine wpAnyH_one (i := 2) (by kernel_rfl) rfl (fun K hK => ?_)
  go_simp
  refine Calls.mono (c1.out _) ?_
  rintro e w4 ⟨rfl, hb4⟩
  have hS4 := bl_trans hS0 hS0.size hb4
  go_simp
  refine hK _ _ ⟨hS4, ?_⟩; clear hK K
  refine wpAnyH_one (i := 5) (by kernel_rfl) rfl (fun K hK => ?_)
  go_simp
  refine Calls.mono (c2.out _) ?_
  rintro e w5 ⟨rfl, hb5⟩
  have hS5 := bl_trans hS4 hS4.size hb5
  go_simp
  refine hK _ _ ⟨hS5, ?_⟩; clear hK K
  refine wpAnyH_one (i := 6) (by kernel_rfl) rfl (fun K hK => ?_)
  go_simp
  refine hK _ _ ⟨hS5, ?_⟩; clear hK K
  refine wpAnyH_one (i := 7) (by kernel_rfl) rfl (fun K hK => ?_)
  go_simp
  refine hK _ _ ⟨hS5, ?_⟩; clear hK K
  refine wpAnyH_take (i := 8) (v := aggW s) rfl (by kernel_rfl) (by kernel_rfl) (by kernel_rfl) (fun _ _ _ h => h) (Or.inl ⟨by rfl, by intro W hW; obtain ⟨a0, a1, a2, a3⟩ := ES.out W hW; go_simp; try (first | (with_reducible rfl) | omega)⟩) hS5 ?_
  refine wpAnyH_take (i := 9) (v := .int .i64 n) rfl (by kernel_rfl) (by kernel_rfl) (by kernel_rfl) (fun _ _ _ h => h) (Or.inl ⟨by rfl, by intro W hW; go_simp; try (first | (with_reducible rfl) | omega)⟩) hS5 ?_
  refine wpAnyH_take (i := 11) (v := aggW s) rfl (by kernel_rfl) (by kernel_rfl) (by kernel_rfl) (fun _ _ _ h => h) (Or.inl ⟨by rfl, by intro W hW; obtain ⟨a0, a1, a2, a3⟩ := ES.out W hW; go_simp; try (first | (with_reducible rfl) | omega)⟩) hS5 ?_
  refine wpAnyH_take (i := 12) (v := aggW O) rfl (by kernel_rfl) (by kernel_rfl) (by kernel_rfl) (fun _ _ _ h => h) (Or.inl ⟨by rfl, by intro W hW; obtain ⟨a0, a1, a2, a3⟩ := EO.out W hW; go_simp; try (first | (with_reducible rfl) | omega)⟩) hS5 ?_
  refine wpAnyH_one (i := 10) (by kernel_rfl) rfl (fun K hK => ?_)
  go_simp
  refine Calls.mono (c3.out _) ?_
  rintro e w6 ⟨rfl, hb6⟩
  have hS6 := bl_trans hS5 hS5.size hb6
  go_simp
  refine hK _ _ ⟨hS6, ?_⟩; clear hK K
  refine wpAnyH_one (i := 13) (by kernel_rfl) rfl (fun K hK => ?_)
  go_simp
  refine Calls.mono (c4.out _) ?_
  rintro e w7 ⟨rfl, hb7⟩
  have hS7 := bl_trans hS6 hS6.size hb7
  go_simp
  refine hK _ _ ⟨hS7, ?_⟩; clear hK K
  refine wpAnyH_one (i := 14) (by kernel_rfl) rfl (fun K hK => ?_)
  go_simp
  refine hK _ _ ⟨hS7, ?_⟩; clear hK K
  refine wpAnyH_one (i := 15) (by kernel_rfl) rfl (fun K hK => ?_)
  go_simp
  refine hK _ _ ⟨hS7, ?_⟩; clear hK K
  refine wpAnyH_one (i := 16) (by kernel_rfl) rfl (fun K hK => ?_)
  go_simp
  refine hK _ _ ⟨hS7, ?_⟩; clear hK K
  refine wpAnyH_take (i := 17) (v := aggW s) rfl (by kernel_rfl) (by kernel_rfl) (by kernel_rfl) (fun _ _ _ h => h) (Or.inl ⟨by rfl, by intro W hW; obtain ⟨a0, a1, a2, a3⟩ := ES.out W hW; go_simp; try (first | (with_reducible rfl) | omega)⟩) hS7 ?_
  refine wpAnyH_take (i := 18) (v := .int .i64 n) rfl (by kernel_rfl) (by kernel_rfl) (by kernel_rfl) (fun _ _ _ h => h) (Or.inl ⟨by rfl, by intro W hW; go_simp; try (first | (with_reducible rfl) | omega)⟩) hS7 ?_
  refine wpAnyH_take (i := 20) (v := aggW s) rfl (by kernel_rfl) (by kernel_rfl) (by kernel_rfl) (fun _ _ _ h => h) (Or.inl ⟨by rfl, by intro W hW; obtain ⟨a0, a1, a2, a3⟩ := ES.out W hW; go_simp; try (first | (with_reducible rfl) | omega)⟩) hS7 ?_
  refine wpAnyH_take (i := 21) (v := aggW O) rfl (by kernel_rfl) (by kernel_rfl) (by kernel_rfl) (fun _ _ _ h => h) (Or.inl ⟨by rfl, by intro W hW; obtain ⟨a0, a1, a2, a3⟩ := EO.out W hW; go_simp; try (first | (with_reducible rfl) | omega)⟩) hS7 ?_
  refine wpAnyH_one (i := 19) (by kernel_rfl) rfl (fun K hK => ?_)
  go_simp
  refine Calls.mono (c5.out _) ?_
  rintro e w8 ⟨rfl, hb8⟩
  have hS8 := bl_trans hS7 hS7.size hb8
  go_simp
  refine hK _ _ ⟨hS8, ?_⟩; clear hK K
  refine wpAnyH_one (i := 22) (by kernel_rfl) rfl (fun K hK => ?_)
  go_simp
  refine Calls.mono (c6.out _) ?_
  rintro e w9 ⟨rfl, hb9⟩
  have hS9 := bl_trans hS8 hS8.size hb9
  go_simp
  refine hK _ _ ⟨hS9, ?_⟩; clear hK K
  refine wpAnyH_one (i := 23) (by kernel_rfl) rfl (fun K hK => ?_)
  go_simp
  refine hK _ _ ⟨hS9, ?_⟩; clear hK K
  refine wpAnyH_one (i := 24) (by kernel_rfl) rfl (fun K hK => ?_)
  go_simp
  refine hK _ _ ⟨hS9, ?_⟩; clear hK K
  refine wpAnyH_one (i := 25) (by kernel_rfl) rfl (fun K hK => ?_)
  go_simp
  refine hK _ _ ⟨hS9, ?_⟩; clear hK K
  refine wpAnyH_take (i := 26) (v := .slice A ln lc) rfl (by kernel_rfl) (by kernel_rfl) (by kernel_rfl) (fun _ _ _ h => h) (Or.inl ⟨by rfl, by intro W hW; go_simp; try (first | (with_reducible rfl) | omega)⟩) hS9 ?_
  refine wpAnyH_take (i := 28) (v := .slice A ln lc) rfl (by kernel_rfl) (by kernel_rfl) (by kernel_rfl) (fun _ _ _ h => h) (Or.inl ⟨by rfl, by intro W hW; go_simp; try (first | (with_reducible rfl) | omega)⟩) hS9 ?_
  refine wpAnyH_one (i := 27) (by kernel_rfl) rfl (fun K hK => ?_)
  go_simp
  refine Calls.mono (c7.out _ hS9) ?_
  rintro e w10 ⟨rfl, hb10⟩
  have hS10 := bl_trans hS9 hS9.size hb10
  go_simp
  refine hK _ _ ⟨hS10, ?_⟩; clear hK K
  refine wpAnyH_one (i := 29) (by kernel_rfl) rfl (fun K hK => ?_)
  go_simp
  refine Calls.mono (c8.out _ hS10) ?_
  rintro e w11 ⟨rfl, hb11⟩
  have hS11 := bl_trans hS10 hS10.size hb11
  go_simp
  refine hK _ _ ⟨hS11, ?_⟩; clear hK K
  refine wpAnyH_one (i := 30) (by kernel_rfl) rfl (fun K hK => ?_)
  go_simp
  refine hK _ _ ⟨hS11, ?_⟩; clear hK K
  refine wpAnyH_one (i := 31) (by kernel_rfl) rfl (fun K hK => ?_)
  go_simp
  refine hK _ _ ⟨hS11, ?_⟩; clear hK K
  refine wpAnyH_one (i := 32) (by kernel_rfl) rfl (fun K hK => ?_)
  go_simp
  refine hK _ _ ⟨hS11, ?_⟩; clear hK K
  refine wpAnyH_one (i := 33) (by kernel_rfl) rfl (fun K hK => ?_)
  go_simp
  refine Calls.mono (c9.out _ hS11) ?_
  rintro e w12 ⟨rfl, hb12⟩
  have hS12 := bl_trans hS11 hS11.size hb12
  go_simp
  refine hK _ _ ⟨hS12, ?_⟩; clear hK K
  refine wpAnyH_one (i := 34) (by kernel_rfl) rfl (fun K hK => ?_)
  go_simp
  refine hK _ _ ⟨hS12, ?_⟩; clear hK K
  refine wpAnyH_one (i := 35) (by kernel_rfl) rfl (fun K hK => ?_)
  go_simp
  refine hK _ _ ⟨hS12, ?_⟩; clear hK K
  refine wpAnyH_done (by kernel_rfl) ?_ _
  go_wp2_with fail
  go_ret
  exact ⟨rfl, bl_trans HB3.out HB3.out.size hS12⟩
set_option maxRecDepth 100000 in
theorem slotsHas_walk (s : W4) (hok : s.Ok) (n : Int) (hn : (Lit.int .i64 n).wf = true) (A : Option Addr) (ln lc : Nat) (xs : List Int) (w : World) (hl : SlR 1 8 (RInt .i64) w w.heap.size A ln lc xs) (hT : Tab w) (hw0 : 0 < w.heap.size) : Calls Tryd.prog 3 #[aggW s, .int .i64 n, .slice A ln lc] w fun e w' => e = .returned (.bool true) ∧ Below w.heap.size w w' := by
  by_cases h : ln ≤ 100
  · exact slotsHas_few s hok n hn A ln lc xs w hl h hT hw0
  · have q1 : (100 : Int) < (ln : Int) := by omega
    have g1 : ln ≤ 9223372036854775807 := by have := hl.2.1; have := hl.2.2.1; unfold maxLen at this; omega
    have c := Lib.hid (fun W hW hw => slots_lives W hW hw)
    have hb : Below w.heap.size w (w.alloc (.cells #[.int .u64 (s.a0 : Int), .int .u64 (s.a1 : Int), .int .u64 (s.a2 : Int), .int .u64 (s.a3 : Int)] 24)) := bl_one _
    have HT := Lib.hid (hT.below hb hw0)
    have HW : Hid (0 < (w.alloc (.cells #[.int .u64 (s.a0 : Int), .int .u64 (s.a1 : Int), .int .u64 (s.a2 : Int), .int .u64 (s.a3 : Int)] 24)).heap.size) := Lib.hid (by simp)
    have HB := Lib.hid hb
    clear hl h hb
    go_enter Tryd.func3, Tryd.ntmps3
    go_wp2_with fail
    refine (c.out _ HT.out HW.out).mono ?_
    rintro e w1 ⟨rfl, hb1⟩
    go_wp2_with fail
    go_ret
    exact ⟨rfl, bl_trans HB.out HB.out.size hb1⟩
end Go.Proofs.YtaffndecknhhnaaDoor
