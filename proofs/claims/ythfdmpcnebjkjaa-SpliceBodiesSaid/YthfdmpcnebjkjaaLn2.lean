/-
  Pieces of bodies: one instruction more.
-/
import Derived.Test.YthfdmpcnebjkjaaLn1
import Derived.Test.YthfdmpcnebjkjaaPiv
namespace Go.Proofs.Ythfdmpcnebjkjaa
open Go.RowKit
set_option linter.unusedSimpArgs false
set_option linter.unusedVariables false
abbrev FG (F : Nat → Prop) (pb g : Nat) : Nat → Prop := fun j => (F j ∨ j = pb) ∨ j = g
def KS (F : Nat → Prop) (pb g : Nat) (w1 W : World) : Prop := Kp (fun j => ¬ FG F pb g j) w1 W
def IsLn (base : Nat) (F : Nat → Prop) (pb k : Nat) (l0 : List DInstr) (l1 l2 : List Int) (v3 v4 : Value) (w : World) (e : Ending) (w' : World) : Prop :=
  (∃ v, e = .returned v) ∧ ∃ A0 c0 A1 c1 A2 c2, Cells w' pb [.slice A0 k c0, .slice A1 k c1, .slice A2 k c2, v3, v4] ∧ Rw base (fun j => F j ∨ j = pb) (.slice A0 k c0) (.slice A1 k c1) (.slice A2 k c2) k k k l0 l1 l2 w' ∧ Kp (fun j => ¬ F j) w w'
theorem oneI (x : DInstr) : ∀ u ∈ cellsI x, u.oneCell' = true := by
  intro u hu
  simp [cellsI] at hu
  rcases hu with rfl | rfl <;> rfl
theorem Rw.more {base : Nat} {F : Nat → Prop} {u0 u1 u2 : Value} {m0 m1 m2 : Nat} {l0 : List DInstr} {l1 l2 : List Int} {W : World} (h : Rw base F u0 u1 u2 m0 m1 m2 l0 l1 l2 W) {g : Nat} (hg : g < W.heap.size) (h0 : u0.ownBlock ≠ some g) (h1 : u1.ownBlock ≠ some g) (h2 : u2.ownBlock ≠ some g) : Rw base (fun j => F j ∨ j = g) u0 u1 u2 m0 m1 m2 l0 l1 l2 W :=
  ⟨h.r0, h.r1, h.r2, h.n01, h.n02, h.n12, fun j hj => hj.elim (h.f0 j) (fun e => by rw [e]; exact h0), fun j hj => hj.elim (h.f1 j) (fun e => by rw [e]; exact h1), fun j hj => hj.elim (h.f2 j) (fun e => by rw [e]; exact h2), fun j hj => hj.elim (h.fl j) (fun e => by omega), h.sz⟩
set_option maxRecDepth 100000 in
set_option maxHeartbeats 64000000 in
theorem line_any (base : Nat) (F : Nat → Prop) (pb lb k : Nat) (A0 A1 A2 : Option Addr) (c0 c1 c2 : Nat) (l0 : List DInstr) (l1 l2 : List Int) (v3 v4 : Value) (li nd xo xa : Int) (w : World)
    (hp : Cells w pb [.slice A0 k c0, .slice A1 k c1, .slice A2 k c2, v3, v4]) (hr : Rw base (fun j => F j ∨ j = pb) (.slice A0 k c0) (.slice A1 k c1) (.slice A2 k c2) k k k l0 l1 l2 w) (hF : ¬ F pb)
    (p0 : w.cell? ⟨lb, 0, none⟩ = some (.int .i64 xo)) (p1 : w.cell? ⟨lb, 1, none⟩ = some (.int .i64 xa)) (hk : k ≤ 100000) :
    Calls Try.prog 40 #[.pointer (some ⟨pb, 0, none⟩), .int .i64 li, .int .i64 nd, .slice (some ⟨lb, 0, none⟩) 1 1] w (IsLn base F pb (k + 1) (l0 ++ [⟨xo, xa⟩]) (l1 ++ [li]) (l2 ++ [nd]) v3 v4 w) := by
  obtain ⟨i0, hi, hz0, hz1, hz2⟩ := info_parts info_int
  obtain ⟨j0, hj, hy0, hy1, hy2⟩ := info_parts info_instr
  obtain ⟨w1, hw1⟩ : ∃ X, w.alloc (.cells #[.int .i64 xo, .int .i64 xa] 49) = X := ⟨_, rfl⟩
  obtain ⟨g, hg⟩ : ∃ g, w.heap.size = g := ⟨_, rfl⟩
  have hb1 : Below w.heap.size w w1 := by rw [← hw1]; exact bl_one _
  have hcx : Cells w1 g [.int .i64 xo, .int .i64 xa] := by rw [← hw1, ← hg]; exact Cells.new w [.int .i64 xo, .int .i64 xa] _
  have hp1 := hp.on hb1
  have HPC := Lib.hid hp1
  have hr1 : Rw base (FG F pb g) (.slice A0 k c0) (.slice A1 k c1) (.slice A2 k c2) k k k l0 l1 l2 w1 := (hr.on hb1).more hcx.lt (fun e => by have := (hr.r0.lt _ e).2; omega) (fun e => by have := (hr.r1.lt _ e).2; omega) (fun e => by have := (hr.r2.lt _ e).2; omega)
  have HLd : Hid (Ln base (FG F pb g) (.slice A0 k c0) (.slice A1 k c1) (.slice A2 k c2) k k k l0 l1 l2 none none none ⟨xo, xa⟩ li nd w1 w1.drew) := Lib.hid ⟨hr1.kp ((Kp.refl (fun _ => False) w1).drew) (fun _ _ h => h) (fun _ _ h => h) (fun _ _ h => h), (fun g hg => by cases hg), (fun g hg => by cases hg), (fun g hg => by cases hg), (Kp.refl _ _).drew⟩
  have HS : Hid (∀ W, KS F pb g w1 W → W.cell? ⟨pb, 0, none⟩ = some (.slice A0 k c0) ∧ W.cell? ⟨pb, 1, none⟩ = some (.slice A1 k c1) ∧ W.cell? ⟨pb, 2, none⟩ = some (.slice A2 k c2) ∧ W.cell? ⟨g, 0, none⟩ = some (.int .i64 xo) ∧ W.cell? ⟨g, 1, none⟩ = some (.int .i64 xa)) := Lib.hid fun W hW => ⟨(hp1.kp hW (fun h => h (.inl (.inr rfl)))).at_ 0 _ rfl, (hp1.kp hW (fun h => h (.inl (.inr rfl)))).at_ 1 _ rfl, (hp1.kp hW (fun h => h (.inl (.inr rfl)))).at_ 2 _ rfl, (hcx.kp hW (fun h => h (.inr rfl))).at_ 0 _ rfl, (hcx.kp hW (fun h => h (.inr rfl))).at_ 1 _ rfl⟩
  have HK1 : Hid (Kp (fun j => ¬ F j) w w1 ∧ g = w.heap.size) := Lib.hid ⟨(Kp.refl _ w).ofBelow hb1, hg.symm⟩
  have HFP := Lib.hid hF
  have HFL : Hid (∀ j, F j → j < w.heap.size) := Lib.hid fun j hj => hr.fl j (.inl hj)
  clear hp hr hb1 hcx hp1 hF hr1
  go_enter Try.func40, Try.ntmps40
  go_wp2_with fail
  refine wp_loop_rounds 2 ?_
  rw [rounds_succ]
  go_wp2_with fail
  clear p0 p1
  refine wp_region_piv (R := fun W => KS F pb g w1 W) (pv := 26) (by kernel_rfl) ?_
  change wpAnyG _ _ _ _ _ _ _ _ _ (World.drew _)
  have hS0 : KS F pb g w1 w1.drew := (Kp.refl _ w1).drew
  refine wpAnyG_take (i := 0) (v := .pointer (some ⟨pb, 0, none⟩)) (k := 0) [] rfl (by kernel_rfl) (by kernel_rfl) (by kernel_rfl) (by kernel_rfl) (by kernel_rfl) (fun _ _ _ h => h) (Or.inl ⟨by rfl, by intro W hW; go_simp; try (first | (with_reducible rfl) | omega)⟩) (by kernel_rfl) (by kernel_rfl) hS0 ?_
  refine wpAnyG_take (i := 3) (v := .pointer (some ⟨pb, 0, none⟩)) (k := 3) [] rfl (by kernel_rfl) (by kernel_rfl) (by kernel_rfl) (by kernel_rfl) (by kernel_rfl) (fun _ _ _ h => h) (Or.inl ⟨by rfl, by intro W hW; go_simp; try (first | (with_reducible rfl) | omega)⟩) (by kernel_rfl) (by kernel_rfl) hS0 ?_
  refine wpAnyG_take (i := 7) (v := .agg #[.int .i64 xo, .int .i64 xa]) (k := 7) [] rfl (by kernel_rfl) (by kernel_rfl) (by kernel_rfl) (by kernel_rfl) (by kernel_rfl) (fun _ _ _ h => h) (Or.inl ⟨by rfl, by intro W hW; obtain ⟨z0, z1, z2, y0, y1⟩ := HS.out W hW; go_simp; try (first | (with_reducible rfl) | omega)⟩) (by kernel_rfl) (by kernel_rfl) hS0 ?_
  refine wpAnyG_take (i := 10) (v := .pointer (some ⟨pb, 0, none⟩)) (k := 23) [16, 13, 12, 11, 10] rfl (by kernel_rfl) (by kernel_rfl) (by kernel_rfl) (by kernel_rfl) (by kernel_rfl) (fun _ _ _ h => h) (Or.inl ⟨by rfl, by intro W hW; go_simp; try (first | (with_reducible rfl) | omega)⟩) (by kernel_rfl) (by kernel_rfl) hS0 ?_
  refine wpAnyG_take (i := 14) (v := .int .i64 li) (k := 23) [16, 15, 14] rfl (by kernel_rfl) (by kernel_rfl) (by kernel_rfl) (by kernel_rfl) (by kernel_rfl) (fun _ _ _ h => h) (Or.inl ⟨by rfl, by intro W hW; go_simp; try (first | (with_reducible rfl) | omega)⟩) (by kernel_rfl) (by kernel_rfl) hS0 ?_
  refine wpAnyG_take (i := 17) (v := .pointer (some ⟨pb, 0, none⟩)) (k := 23) [20, 19, 18, 17] rfl (by kernel_rfl) (by kernel_rfl) (by kernel_rfl) (by kernel_rfl) (by kernel_rfl) (fun _ _ _ h => h) (Or.inl ⟨by rfl, by intro W hW; go_simp; try (first | (with_reducible rfl) | omega)⟩) (by kernel_rfl) (by kernel_rfl) hS0 ?_
  refine wpAnyG_take (i := 21) (v := .int .i64 nd) (k := 23) [22, 21] rfl (by kernel_rfl) (by kernel_rfl) (by kernel_rfl) (by kernel_rfl) (by kernel_rfl) (fun _ _ _ h => h) (Or.inl ⟨by rfl, by intro W hW; go_simp; try (first | (with_reducible rfl) | omega)⟩) (by kernel_rfl) (by kernel_rfl) hS0 ?_
  try go_simp
  refine wpAnyG_take (i := 4) (v := .pointer (some ⟨pb, 0, none⟩)) (k := 4) [] rfl (by kernel_rfl) (by kernel_rfl) (by kernel_rfl) (by kernel_rfl) (by kernel_rfl) (fun _ _ _ h => h) (Or.inl ⟨by rfl, by intro W hW; go_simp; try (first | (with_reducible rfl) | omega)⟩) (by kernel_rfl) (by kernel_rfl) hS0 ?_
  refine wpAnyG_take (i := 11) (v := .pointer (some ⟨pb, 0, none⟩)) (k := 23) [16, 13, 12, 11] rfl (by kernel_rfl) (by kernel_rfl) (by kernel_rfl) (by kernel_rfl) (by kernel_rfl) (fun _ _ _ h => h) (Or.inl ⟨by rfl, by intro W hW; go_simp; try (first | (with_reducible rfl) | omega)⟩) (by kernel_rfl) (by kernel_rfl) hS0 ?_
  refine wpAnyG_take (i := 18) (v := .pointer (some ⟨pb, 0, none⟩)) (k := 23) [20, 19, 18] rfl (by kernel_rfl) (by kernel_rfl) (by kernel_rfl) (by kernel_rfl) (by kernel_rfl) (fun _ _ _ h => h) (Or.inl ⟨by rfl, by intro W hW; go_simp; try (first | (with_reducible rfl) | omega)⟩) (by kernel_rfl) (by kernel_rfl) hS0 ?_
  try go_simp
  refine wpAnyG_take (i := 5) (v := .pointer (some ⟨pb, 0, none⟩)) (k := 5) [] rfl (by kernel_rfl) (by kernel_rfl) (by kernel_rfl) (by kernel_rfl) (by kernel_rfl) (fun _ _ _ h => h) (Or.inl ⟨by rfl, by intro W hW; go_simp; try (first | (with_reducible rfl) | omega)⟩) (by kernel_rfl) (by kernel_rfl) hS0 ?_
  refine wpAnyG_take (i := 12) (v := .pointer (some ⟨pb, 1, none⟩)) (k := 23) [16, 13, 12] rfl (by kernel_rfl) (by kernel_rfl) (by kernel_rfl) (by kernel_rfl) (by kernel_rfl) (fun _ _ _ h => h) (Or.inl ⟨by rfl, by intro W hW; go_simp; try (first | (with_reducible rfl) | omega)⟩) (by kernel_rfl) (by kernel_rfl) hS0 ?_
  refine wpAnyG_take (i := 19) (v := .pointer (some ⟨pb, 2, none⟩)) (k := 23) [20, 19] rfl (by kernel_rfl) (by kernel_rfl) (by kernel_rfl) (by kernel_rfl) (by kernel_rfl) (fun _ _ _ h => h) (Or.inl ⟨by rfl, by intro W hW; go_simp; try (first | (with_reducible rfl) | omega)⟩) (by kernel_rfl) (by kernel_rfl) hS0 ?_
  try go_simp
  refine wpAnyG_take (i := 6) (v := .slice A0 k c0) (k := 6) [] rfl (by kernel_rfl) (by kernel_rfl) (by kernel_rfl) (by kernel_rfl) (by kernel_rfl) (fun _ _ _ h => h) (Or.inl ⟨by rfl, by intro W hW; obtain ⟨z0, z1, z2, y0, y1⟩ := HS.out W hW; go_simp; try (first | (with_reducible rfl) | omega)⟩) (by kernel_rfl) (by kernel_rfl) hS0 ?_
  refine wpAnyG_take (i := 13) (v := .slice A1 k c1) (k := 23) [16, 13] rfl (by kernel_rfl) (by kernel_rfl) (by kernel_rfl) (by kernel_rfl) (by kernel_rfl) (fun _ _ _ h => h) (Or.inl ⟨by rfl, by intro W hW; obtain ⟨z0, z1, z2, y0, y1⟩ := HS.out W hW; go_simp; try (first | (with_reducible rfl) | omega)⟩) (by kernel_rfl) (by kernel_rfl) hS0 ?_
  refine wpAnyG_take (i := 20) (v := .slice A2 k c2) (k := 23) [20] rfl (by kernel_rfl) (by kernel_rfl) (by kernel_rfl) (by kernel_rfl) (by kernel_rfl) (fun _ _ _ h => h) (Or.inl ⟨by rfl, by intro W hW; obtain ⟨z0, z1, z2, y0, y1⟩ := HS.out W hW; go_simp; try (first | (with_reducible rfl) | omega)⟩) (by kernel_rfl) (by kernel_rfl) hS0 ?_
  try go_simp
  refine wpAnyG_free (i := 1) (v := .pointer (some ⟨pb, 0, none⟩)) rfl (by decide) (by kernel_rfl) (by kernel_rfl) (by kernel_rfl) (fun _ _ _ h => h) (Or.inl ⟨by rfl, by intro W hW; go_simp; try (first | (with_reducible rfl) | omega)⟩) (fun _ => hS0) ?_
  refine wpAnyG_free (i := 2) (v := .pointer (some ⟨pb, 0, none⟩)) rfl (by decide) (by kernel_rfl) (by kernel_rfl) (by kernel_rfl) (fun _ _ _ h => h) (Or.inl ⟨by rfl, by intro W hW; go_simp; try (first | (with_reducible rfl) | omega)⟩) (fun _ => hS0) ?_
  try go_simp
  refine wpAnyG_listed (listed' := #[true, true, true, true, true, true, true, true, false, false, true, true, true, true, true, false, false, true, true, true, true, true, false, false, false, false, false, false, false, false, false, false, false]) (by kernel_rfl) ?_
  clear hS0
  obtain ⟨wd, hwd⟩ : ∃ X, w1.drew = X := ⟨_, rfl⟩
  rw [hwd] at HLd
  rw [hwd]
  clear hwd
  refine (fun (hT : ∀ (B0 B1 B2 : Option Addr) (d0 d1 d2 g0 g1 g2 : Nat) (W : World), Hid (Ln base (FG F pb g) (.slice B0 (k + 1) d0) (.slice B1 (k + 1) d1) (.slice B2 (k + 1) d2) (k + 1) (k + 1) (k + 1) (l0 ++ [⟨xo, xa⟩]) (l1 ++ [li]) (l2 ++ [nd]) none none none ⟨xo, xa⟩ li nd w1 W) → (?T : Option Addr → Option Addr → Option Addr → Nat → Nat → Nat → Nat → Nat → Nat → World → Prop) B0 B1 B2 d0 d1 d2 g0 g1 g2 W) => ?main) ?tail
  case main =>
    refine wpAnyG_three (i := 8) (j := 15) (l := 22) (by kernel_rfl) rfl rfl rfl (fun K hK => ?_) (fun K hK => ?_) (fun K hK => ?_)
    · obtain ⟨w11, hw11⟩ : ∃ X, World.alloc wd (.cells #[.int .i64 xo, .int .i64 xa] 49) = X := ⟨_, rfl⟩
      obtain ⟨g1, hg1⟩ : ∃ X, (World.heap wd).size = X := ⟨_, rfl⟩
      have H1 := Lib.hid HLd.out.b0
      rw [hw11, hg1] at H1
      go_simp
      refine hK _ _ ⟨fun _ => H1.out.kp, ?_⟩; clear hK K hw11 hg1
      refine wpAnyG_three (i := 9) (j := 15) (l := 22) (by kernel_rfl) rfl rfl rfl (fun K hK => ?_) (fun K hK => ?_) (fun K hK => ?_)
      · refine step_append_src _ rfl _ _ 23 rfl base 49 j0 (.agg #[.int .i64 0, .int .i64 0]) 2 16 Try.underlying23 hj hy0 hy1 hy2 rfl (by decide) (.slice A0 k c0) k (l0.flatMap cellsI) ?qq1 H1.out.ro.r0 (some ⟨g1, 0, none⟩) 1 1 (cellsI ⟨xo, xa⟩) ?qq2 (H1.out.s0 _ rfl).src (oneI _) (by unfold maxLen; omega) (by omega) H1.out.ro.sz ?_
        case qq1 => go_simp
        case qq2 => go_simp
        intro v' w12 hown' hgrow hat
        obtain ⟨B0, d0, rfl, _⟩ := own_form hown'
        have H2 := Lib.hid (H1.out.a0 hown' hgrow hat)
        clear hown' hgrow hat
        try go_simp
        refine hK _ _ ⟨fun _ => H2.out.kp, ?_⟩; clear hK K
        refine wpAnyG_two (i := 15) (j := 22) (by kernel_rfl) rfl rfl (fun K hK => ?_) (fun K hK => ?_)
        · obtain ⟨w13, hw13⟩ : ∃ X, World.alloc w12 (.cells #[.int .i64 li] 3) = X := ⟨_, rfl⟩
          obtain ⟨g3, hg3⟩ : ∃ X, (World.heap w12).size = X := ⟨_, rfl⟩
          have H3 := Lib.hid H2.out.b1
          rw [hw13, hg3] at H3
          go_simp
          refine hK _ _ ⟨fun _ => H3.out.kp, ?_⟩; clear hK K hw13 hg3
          refine wpAnyG_two (i := 16) (j := 22) (by kernel_rfl) rfl rfl (fun K hK => ?_) (fun K hK => ?_)
          · refine step_append_src _ rfl _ _ 24 rfl base 3 i0 (.int .i64 0) 1 8 Try.underlying24 hi hz0 hz1 hz2 rfl (by decide) (.slice A1 k c1) k (rowI l1) ?qq1 H3.out.ro.r1 (some ⟨g3, 0, none⟩) 1 1 [.int .i64 li] ?qq2 (H3.out.s1 _ rfl).src (one_int li) (by unfold maxLen; omega) (by omega) H3.out.ro.sz ?_
            case qq1 => go_simp
            case qq2 => go_simp
            intro v' w14 hown' hgrow hat
            obtain ⟨B1, d1, rfl, _⟩ := own_form hown'
            have H4 := Lib.hid (H3.out.a1 hown' hgrow hat)
            clear hown' hgrow hat
            try go_simp
            refine hK _ _ ⟨fun _ => H4.out.kp, ?_⟩; clear hK K
            refine wpAnyG_one (i := 22) (by kernel_rfl) rfl (fun K hK => ?_)
            obtain ⟨w15, hw15⟩ : ∃ X, World.alloc w14 (.cells #[.int .i64 nd] 3) = X := ⟨_, rfl⟩
            obtain ⟨g5, hg5⟩ : ∃ X, (World.heap w14).size = X := ⟨_, rfl⟩
            have H5 := Lib.hid H4.out.b2
            rw [hw15, hg5] at H5
            go_simp
            refine hK _ _ ⟨fun _ => H5.out.kp, ?_⟩; clear hK K hw15 hg5
            refine wpAnyG_one (i := 23) (by kernel_rfl) rfl (fun K hK => ?_)
            refine step_append_src _ rfl _ _ 24 rfl base 3 i0 (.int .i64 0) 1 8 Try.underlying24 hi hz0 hz1 hz2 rfl (by decide) (.slice A2 k c2) k (rowI l2) ?qq1 H5.out.ro.r2 (some ⟨g5, 0, none⟩) 1 1 [.int .i64 nd] ?qq2 (H5.out.s2 _ rfl).src (one_int nd) (by unfold maxLen; omega) (by omega) H5.out.ro.sz ?_
            case qq1 => go_simp
            case qq2 => go_simp
            intro v' w16 hown' hgrow hat
            obtain ⟨B2, d2, rfl, _⟩ := own_form hown'
            have H6 := Lib.hid (H5.out.a2 hown' hgrow hat)
            clear hown' hgrow hat
            try go_simp
            refine hK _ _ ⟨fun _ => H6.out.kp, ?_⟩; clear hK K
            try go_simp
            all_goals refine wpAnyG_listed (listed' := #[true, true, true, true, true, true, true, true, true, true, true, true, true, true, true, true, true, true, true, true, true, true, true, true, false, false, false, false, false, false, false, false, false]) (by kernel_rfl) ?_
            all_goals exact hT B0 B1 B2 d0 d1 d2 g1 g3 g5 w16 (Lib.hid H6.out)
          · obtain ⟨w17, hw17⟩ : ∃ X, World.alloc w13 (.cells #[.int .i64 nd] 3) = X := ⟨_, rfl⟩
            obtain ⟨g7, hg7⟩ : ∃ X, (World.heap w13).size = X := ⟨_, rfl⟩
            have H7 := Lib.hid H3.out.b2
            rw [hw17, hg7] at H7
            go_simp
            refine hK _ _ ⟨fun _ => H7.out.kp, ?_⟩; clear hK K hw17 hg7
            refine wpAnyG_one (i := 16) (by kernel_rfl) rfl (fun K hK => ?_)
            refine step_append_src _ rfl _ _ 24 rfl base 3 i0 (.int .i64 0) 1 8 Try.underlying24 hi hz0 hz1 hz2 rfl (by decide) (.slice A1 k c1) k (rowI l1) ?qq1 H7.out.ro.r1 (some ⟨g3, 0, none⟩) 1 1 [.int .i64 li] ?qq2 (H7.out.s1 _ rfl).src (one_int li) (by unfold maxLen; omega) (by omega) H7.out.ro.sz ?_
            case qq1 => go_simp
            case qq2 => go_simp
            intro v' w18 hown' hgrow hat
            obtain ⟨B1, d1, rfl, _⟩ := own_form hown'
            have H8 := Lib.hid (H7.out.a1 hown' hgrow hat)
            clear hown' hgrow hat
            try go_simp
            refine hK _ _ ⟨fun _ => H8.out.kp, ?_⟩; clear hK K
            refine wpAnyG_one (i := 23) (by kernel_rfl) rfl (fun K hK => ?_)
            refine step_append_src _ rfl _ _ 24 rfl base 3 i0 (.int .i64 0) 1 8 Try.underlying24 hi hz0 hz1 hz2 rfl (by decide) (.slice A2 k c2) k (rowI l2) ?qq1 H8.out.ro.r2 (some ⟨g7, 0, none⟩) 1 1 [.int .i64 nd] ?qq2 (H8.out.s2 _ rfl).src (one_int nd) (by unfold maxLen; omega) (by omega) H8.out.ro.sz ?_
            case qq1 => go_simp
            case qq2 => go_simp
            intro v' w19 hown' hgrow hat
            obtain ⟨B2, d2, rfl, _⟩ := own_form hown'
            have H9 := Lib.hid (H8.out.a2 hown' hgrow hat)
            clear hown' hgrow hat
            try go_simp
            refine hK _ _ ⟨fun _ => H9.out.kp, ?_⟩; clear hK K
            try go_simp
            all_goals refine wpAnyG_listed (listed' := #[true, true, true, true, true, true, true, true, true, true, true, true, true, true, true, true, true, true, true, true, true, true, true, true, false, false, false, false, false, false, false, false, false]) (by kernel_rfl) ?_
            all_goals exact hT B0 B1 B2 d0 d1 d2 g1 g3 g7 w19 (Lib.hid H9.out)
        · obtain ⟨w20, hw20⟩ : ∃ X, World.alloc w12 (.cells #[.int .i64 nd] 3) = X := ⟨_, rfl⟩
          obtain ⟨g10, hg10⟩ : ∃ X, (World.heap w12).size = X := ⟨_, rfl⟩
          have H10 := Lib.hid H2.out.b2
          rw [hw20, hg10] at H10
          go_simp
          refine hK _ _ ⟨fun _ => H10.out.kp, ?_⟩; clear hK K hw20 hg10
          refine wpAnyG_one (i := 15) (by kernel_rfl) rfl (fun K hK => ?_)
          obtain ⟨w21, hw21⟩ : ∃ X, World.alloc w20 (.cells #[.int .i64 li] 3) = X := ⟨_, rfl⟩
          obtain ⟨g11, hg11⟩ : ∃ X, (World.heap w20).size = X := ⟨_, rfl⟩
          have H11 := Lib.hid H10.out.b1
          rw [hw21, hg11] at H11
          go_simp
          refine hK _ _ ⟨fun _ => H11.out.kp, ?_⟩; clear hK K hw21 hg11
          refine wpAnyG_one (i := 16) (by kernel_rfl) rfl (fun K hK => ?_)
          refine step_append_src _ rfl _ _ 24 rfl base 3 i0 (.int .i64 0) 1 8 Try.underlying24 hi hz0 hz1 hz2 rfl (by decide) (.slice A1 k c1) k (rowI l1) ?qq1 H11.out.ro.r1 (some ⟨g11, 0, none⟩) 1 1 [.int .i64 li] ?qq2 (H11.out.s1 _ rfl).src (one_int li) (by unfold maxLen; omega) (by omega) H11.out.ro.sz ?_
          case qq1 => go_simp
          case qq2 => go_simp
          intro v' w22 hown' hgrow hat
          obtain ⟨B1, d1, rfl, _⟩ := own_form hown'
          have H12 := Lib.hid (H11.out.a1 hown' hgrow hat)
          clear hown' hgrow hat
          try go_simp
          refine hK _ _ ⟨fun _ => H12.out.kp, ?_⟩; clear hK K
          refine wpAnyG_one (i := 23) (by kernel_rfl) rfl (fun K hK => ?_)
          refine step_append_src _ rfl _ _ 24 rfl base 3 i0 (.int .i64 0) 1 8 Try.underlying24 hi hz0 hz1 hz2 rfl (by decide) (.slice A2 k c2) k (rowI l2) ?qq1 H12.out.ro.r2 (some ⟨g10, 0, none⟩) 1 1 [.int .i64 nd] ?qq2 (H12.out.s2 _ rfl).src (one_int nd) (by unfold maxLen; omega) (by omega) H12.out.ro.sz ?_
          case qq1 => go_simp
          case qq2 => go_simp
          intro v' w23 hown' hgrow hat
          obtain ⟨B2, d2, rfl, _⟩ := own_form hown'
          have H13 := Lib.hid (H12.out.a2 hown' hgrow hat)
          clear hown' hgrow hat
          try go_simp
          refine hK _ _ ⟨fun _ => H13.out.kp, ?_⟩; clear hK K
          try go_simp
          all_goals refine wpAnyG_listed (listed' := #[true, true, true, true, true, true, true, true, true, true, true, true, true, true, true, true, true, true, true, true, true, true, true, true, false, false, false, false, false, false, false, false, false]) (by kernel_rfl) ?_
          all_goals exact hT B0 B1 B2 d0 d1 d2 g1 g11 g10 w23 (Lib.hid H13.out)
      · obtain ⟨w24, hw24⟩ : ∃ X, World.alloc w11 (.cells #[.int .i64 li] 3) = X := ⟨_, rfl⟩
        obtain ⟨g14, hg14⟩ : ∃ X, (World.heap w11).size = X := ⟨_, rfl⟩
        have H14 := Lib.hid H1.out.b1
        rw [hw24, hg14] at H14
        go_simp
        refine hK _ _ ⟨fun _ => H14.out.kp, ?_⟩; clear hK K hw24 hg14
        refine wpAnyG_two (i := 9) (j := 22) (by kernel_rfl) rfl rfl (fun K hK => ?_) (fun K hK => ?_)
        · refine step_append_src _ rfl _ _ 23 rfl base 49 j0 (.agg #[.int .i64 0, .int .i64 0]) 2 16 Try.underlying23 hj hy0 hy1 hy2 rfl (by decide) (.slice A0 k c0) k (l0.flatMap cellsI) ?qq1 H14.out.ro.r0 (some ⟨g1, 0, none⟩) 1 1 (cellsI ⟨xo, xa⟩) ?qq2 (H14.out.s0 _ rfl).src (oneI _) (by unfold maxLen; omega) (by omega) H14.out.ro.sz ?_
          case qq1 => go_simp
          case qq2 => go_simp
          intro v' w25 hown' hgrow hat
          obtain ⟨B0, d0, rfl, _⟩ := own_form hown'
          have H15 := Lib.hid (H14.out.a0 hown' hgrow hat)
          clear hown' hgrow hat
          try go_simp
          refine hK _ _ ⟨fun _ => H15.out.kp, ?_⟩; clear hK K
          refine wpAnyG_two (i := 16) (j := 22) (by kernel_rfl) rfl rfl (fun K hK => ?_) (fun K hK => ?_)
          · refine step_append_src _ rfl _ _ 24 rfl base 3 i0 (.int .i64 0) 1 8 Try.underlying24 hi hz0 hz1 hz2 rfl (by decide) (.slice A1 k c1) k (rowI l1) ?qq1 H15.out.ro.r1 (some ⟨g14, 0, none⟩) 1 1 [.int .i64 li] ?qq2 (H15.out.s1 _ rfl).src (one_int li) (by unfold maxLen; omega) (by omega) H15.out.ro.sz ?_
            case qq1 => go_simp
            case qq2 => go_simp
            intro v' w26 hown' hgrow hat
            obtain ⟨B1, d1, rfl, _⟩ := own_form hown'
            have H16 := Lib.hid (H15.out.a1 hown' hgrow hat)
            clear hown' hgrow hat
            try go_simp
            refine hK _ _ ⟨fun _ => H16.out.kp, ?_⟩; clear hK K
            refine wpAnyG_one (i := 22) (by kernel_rfl) rfl (fun K hK => ?_)
            obtain ⟨w27, hw27⟩ : ∃ X, World.alloc w26 (.cells #[.int .i64 nd] 3) = X := ⟨_, rfl⟩
            obtain ⟨g17, hg17⟩ : ∃ X, (World.heap w26).size = X := ⟨_, rfl⟩
            have H17 := Lib.hid H16.out.b2
            rw [hw27, hg17] at H17
            go_simp
            refine hK _ _ ⟨fun _ => H17.out.kp, ?_⟩; clear hK K hw27 hg17
            refine wpAnyG_one (i := 23) (by kernel_rfl) rfl (fun K hK => ?_)
            refine step_append_src _ rfl _ _ 24 rfl base 3 i0 (.int .i64 0) 1 8 Try.underlying24 hi hz0 hz1 hz2 rfl (by decide) (.slice A2 k c2) k (rowI l2) ?qq1 H17.out.ro.r2 (some ⟨g17, 0, none⟩) 1 1 [.int .i64 nd] ?qq2 (H17.out.s2 _ rfl).src (one_int nd) (by unfold maxLen; omega) (by omega) H17.out.ro.sz ?_
            case qq1 => go_simp
            case qq2 => go_simp
            intro v' w28 hown' hgrow hat
            obtain ⟨B2, d2, rfl, _⟩ := own_form hown'
            have H18 := Lib.hid (H17.out.a2 hown' hgrow hat)
            clear hown' hgrow hat
            try go_simp
            refine hK _ _ ⟨fun _ => H18.out.kp, ?_⟩; clear hK K
            try go_simp
            all_goals refine wpAnyG_listed (listed' := #[true, true, true, true, true, true, true, true, true, true, true, true, true, true, true, true, true, true, true, true, true, true, true, true, false, false, false, false, false, false, false, false, false]) (by kernel_rfl) ?_
            all_goals exact hT B0 B1 B2 d0 d1 d2 g1 g14 g17 w28 (Lib.hid H18.out)
          · obtain ⟨w29, hw29⟩ : ∃ X, World.alloc w25 (.cells #[.int .i64 nd] 3) = X := ⟨_, rfl⟩
            obtain ⟨g19, hg19⟩ : ∃ X, (World.heap w25).size = X := ⟨_, rfl⟩
            have H19 := Lib.hid H15.out.b2
            rw [hw29, hg19] at H19
            go_simp
            refine hK _ _ ⟨fun _ => H19.out.kp, ?_⟩; clear hK K hw29 hg19
            refine wpAnyG_one (i := 16) (by kernel_rfl) rfl (fun K hK => ?_)
            refine step_append_src _ rfl _ _ 24 rfl base 3 i0 (.int .i64 0) 1 8 Try.underlying24 hi hz0 hz1 hz2 rfl (by decide) (.slice A1 k c1) k (rowI l1) ?qq1 H19.out.ro.r1 (some ⟨g14, 0, none⟩) 1 1 [.int .i64 li] ?qq2 (H19.out.s1 _ rfl).src (one_int li) (by unfold maxLen; omega) (by omega) H19.out.ro.sz ?_
            case qq1 => go_simp
            case qq2 => go_simp
            intro v' w30 hown' hgrow hat
            obtain ⟨B1, d1, rfl, _⟩ := own_form hown'
            have H20 := Lib.hid (H19.out.a1 hown' hgrow hat)
            clear hown' hgrow hat
            try go_simp
            refine hK _ _ ⟨fun _ => H20.out.kp, ?_⟩; clear hK K
            refine wpAnyG_one (i := 23) (by kernel_rfl) rfl (fun K hK => ?_)
            refine step_append_src _ rfl _ _ 24 rfl base 3 i0 (.int .i64 0) 1 8 Try.underlying24 hi hz0 hz1 hz2 rfl (by decide) (.slice A2 k c2) k (rowI l2) ?qq1 H20.out.ro.r2 (some ⟨g19, 0, none⟩) 1 1 [.int .i64 nd] ?qq2 (H20.out.s2 _ rfl).src (one_int nd) (by unfold maxLen; omega) (by omega) H20.out.ro.sz ?_
            case qq1 => go_simp
            case qq2 => go_simp
            intro v' w31 hown' hgrow hat
            obtain ⟨B2, d2, rfl, _⟩ := own_form hown'
            have H21 := Lib.hid (H20.out.a2 hown' hgrow hat)
            clear hown' hgrow hat
            try go_simp
            refine hK _ _ ⟨fun _ => H21.out.kp, ?_⟩; clear hK K
            try go_simp
            all_goals refine wpAnyG_listed (listed' := #[true, true, true, true, true, true, true, true, true, true, true, true, true, true, true, true, true, true, true, true, true, true, true, true, false, false, false, false, false, false, false, false, false]) (by kernel_rfl) ?_
            all_goals exact hT B0 B1 B2 d0 d1 d2 g1 g14 g19 w31 (Lib.hid H21.out)
        · obtain ⟨w32, hw32⟩ : ∃ X, World.alloc w24 (.cells #[.int .i64 nd] 3) = X := ⟨_, rfl⟩
          obtain ⟨g22, hg22⟩ : ∃ X, (World.heap w24).size = X := ⟨_, rfl⟩
          have H22 := Lib.hid H14.out.b2
          rw [hw32, hg22] at H22
          go_simp
          refine hK _ _ ⟨fun _ => H22.out.kp, ?_⟩; clear hK K hw32 hg22
          refine wpAnyG_one (i := 9) (by kernel_rfl) rfl (fun K hK => ?_)
          refine step_append_src _ rfl _ _ 23 rfl base 49 j0 (.agg #[.int .i64 0, .int .i64 0]) 2 16 Try.underlying23 hj hy0 hy1 hy2 rfl (by decide) (.slice A0 k c0) k (l0.flatMap cellsI) ?qq1 H22.out.ro.r0 (some ⟨g1, 0, none⟩) 1 1 (cellsI ⟨xo, xa⟩) ?qq2 (H22.out.s0 _ rfl).src (oneI _) (by unfold maxLen; omega) (by omega) H22.out.ro.sz ?_
          case qq1 => go_simp
          case qq2 => go_simp
          intro v' w33 hown' hgrow hat
          obtain ⟨B0, d0, rfl, _⟩ := own_form hown'
          have H23 := Lib.hid (H22.out.a0 hown' hgrow hat)
          clear hown' hgrow hat
          try go_simp
          refine hK _ _ ⟨fun _ => H23.out.kp, ?_⟩; clear hK K
          refine wpAnyG_one (i := 16) (by kernel_rfl) rfl (fun K hK => ?_)
          refine step_append_src _ rfl _ _ 24 rfl base 3 i0 (.int .i64 0) 1 8 Try.underlying24 hi hz0 hz1 hz2 rfl (by decide) (.slice A1 k c1) k (rowI l1) ?qq1 H23.out.ro.r1 (some ⟨g14, 0, none⟩) 1 1 [.int .i64 li] ?qq2 (H23.out.s1 _ rfl).src (one_int li) (by unfold maxLen; omega) (by omega) H23.out.ro.sz ?_
          case qq1 => go_simp
          case qq2 => go_simp
          intro v' w34 hown' hgrow hat
          obtain ⟨B1, d1, rfl, _⟩ := own_form hown'
          have H24 := Lib.hid (H23.out.a1 hown' hgrow hat)
          clear hown' hgrow hat
          try go_simp
          refine hK _ _ ⟨fun _ => H24.out.kp, ?_⟩; clear hK K
          refine wpAnyG_one (i := 23) (by kernel_rfl) rfl (fun K hK => ?_)
          refine step_append_src _ rfl _ _ 24 rfl base 3 i0 (.int .i64 0) 1 8 Try.underlying24 hi hz0 hz1 hz2 rfl (by decide) (.slice A2 k c2) k (rowI l2) ?qq1 H24.out.ro.r2 (some ⟨g22, 0, none⟩) 1 1 [.int .i64 nd] ?qq2 (H24.out.s2 _ rfl).src (one_int nd) (by unfold maxLen; omega) (by omega) H24.out.ro.sz ?_
          case qq1 => go_simp
          case qq2 => go_simp
          intro v' w35 hown' hgrow hat
          obtain ⟨B2, d2, rfl, _⟩ := own_form hown'
          have H25 := Lib.hid (H24.out.a2 hown' hgrow hat)
          clear hown' hgrow hat
          try go_simp
          refine hK _ _ ⟨fun _ => H25.out.kp, ?_⟩; clear hK K
          try go_simp
          all_goals refine wpAnyG_listed (listed' := #[true, true, true, true, true, true, true, true, true, true, true, true, true, true, true, true, true, true, true, true, true, true, true, true, false, false, false, false, false, false, false, false, false]) (by kernel_rfl) ?_
          all_goals exact hT B0 B1 B2 d0 d1 d2 g1 g14 g22 w35 (Lib.hid H25.out)
      · obtain ⟨w36, hw36⟩ : ∃ X, World.alloc w11 (.cells #[.int .i64 nd] 3) = X := ⟨_, rfl⟩
        obtain ⟨g26, hg26⟩ : ∃ X, (World.heap w11).size = X := ⟨_, rfl⟩
        have H26 := Lib.hid H1.out.b2
        rw [hw36, hg26] at H26
        go_simp
        refine hK _ _ ⟨fun _ => H26.out.kp, ?_⟩; clear hK K hw36 hg26
        refine wpAnyG_two (i := 9) (j := 15) (by kernel_rfl) rfl rfl (fun K hK => ?_) (fun K hK => ?_)
        · refine step_append_src _ rfl _ _ 23 rfl base 49 j0 (.agg #[.int .i64 0, .int .i64 0]) 2 16 Try.underlying23 hj hy0 hy1 hy2 rfl (by decide) (.slice A0 k c0) k (l0.flatMap cellsI) ?qq1 H26.out.ro.r0 (some ⟨g1, 0, none⟩) 1 1 (cellsI ⟨xo, xa⟩) ?qq2 (H26.out.s0 _ rfl).src (oneI _) (by unfold maxLen; omega) (by omega) H26.out.ro.sz ?_
          case qq1 => go_simp
          case qq2 => go_simp
          intro v' w37 hown' hgrow hat
          obtain ⟨B0, d0, rfl, _⟩ := own_form hown'
          have H27 := Lib.hid (H26.out.a0 hown' hgrow hat)
          clear hown' hgrow hat
          try go_simp
          refine hK _ _ ⟨fun _ => H27.out.kp, ?_⟩; clear hK K
          refine wpAnyG_one (i := 15) (by kernel_rfl) rfl (fun K hK => ?_)
          obtain ⟨w38, hw38⟩ : ∃ X, World.alloc w37 (.cells #[.int .i64 li] 3) = X := ⟨_, rfl⟩
          obtain ⟨g28, hg28⟩ : ∃ X, (World.heap w37).size = X := ⟨_, rfl⟩
          have H28 := Lib.hid H27.out.b1
          rw [hw38, hg28] at H28
          go_simp
          refine hK _ _ ⟨fun _ => H28.out.kp, ?_⟩; clear hK K hw38 hg28
          refine wpAnyG_one (i := 16) (by kernel_rfl) rfl (fun K hK => ?_)
          refine step_append_src _ rfl _ _ 24 rfl base 3 i0 (.int .i64 0) 1 8 Try.underlying24 hi hz0 hz1 hz2 rfl (by decide) (.slice A1 k c1) k (rowI l1) ?qq1 H28.out.ro.r1 (some ⟨g28, 0, none⟩) 1 1 [.int .i64 li] ?qq2 (H28.out.s1 _ rfl).src (one_int li) (by unfold maxLen; omega) (by omega) H28.out.ro.sz ?_
          case qq1 => go_simp
          case qq2 => go_simp
          intro v' w39 hown' hgrow hat
          obtain ⟨B1, d1, rfl, _⟩ := own_form hown'
          have H29 := Lib.hid (H28.out.a1 hown' hgrow hat)
          clear hown' hgrow hat
          try go_simp
          refine hK _ _ ⟨fun _ => H29.out.kp, ?_⟩; clear hK K
          refine wpAnyG_one (i := 23) (by kernel_rfl) rfl (fun K hK => ?_)
          refine step_append_src _ rfl _ _ 24 rfl base 3 i0 (.int .i64 0) 1 8 Try.underlying24 hi hz0 hz1 hz2 rfl (by decide) (.slice A2 k c2) k (rowI l2) ?qq1 H29.out.ro.r2 (some ⟨g26, 0, none⟩) 1 1 [.int .i64 nd] ?qq2 (H29.out.s2 _ rfl).src (one_int nd) (by unfold maxLen; omega) (by omega) H29.out.ro.sz ?_
          case qq1 => go_simp
          case qq2 => go_simp
          intro v' w40 hown' hgrow hat
          obtain ⟨B2, d2, rfl, _⟩ := own_form hown'
          have H30 := Lib.hid (H29.out.a2 hown' hgrow hat)
          clear hown' hgrow hat
          try go_simp
          refine hK _ _ ⟨fun _ => H30.out.kp, ?_⟩; clear hK K
          try go_simp
          all_goals refine wpAnyG_listed (listed' := #[true, true, true, true, true, true, true, true, true, true, true, true, true, true, true, true, true, true, true, true, true, true, true, true, false, false, false, false, false, false, false, false, false]) (by kernel_rfl) ?_
          all_goals exact hT B0 B1 B2 d0 d1 d2 g1 g28 g26 w40 (Lib.hid H30.out)
        · obtain ⟨w41, hw41⟩ : ∃ X, World.alloc w36 (.cells #[.int .i64 li] 3) = X := ⟨_, rfl⟩
          obtain ⟨g31, hg31⟩ : ∃ X, (World.heap w36).size = X := ⟨_, rfl⟩
          have H31 := Lib.hid H26.out.b1
          rw [hw41, hg31] at H31
          go_simp
          refine hK _ _ ⟨fun _ => H31.out.kp, ?_⟩; clear hK K hw41 hg31
          refine wpAnyG_one (i := 9) (by kernel_rfl) rfl (fun K hK => ?_)
          refine step_append_src _ rfl _ _ 23 rfl base 49 j0 (.agg #[.int .i64 0, .int .i64 0]) 2 16 Try.underlying23 hj hy0 hy1 hy2 rfl (by decide) (.slice A0 k c0) k (l0.flatMap cellsI) ?qq1 H31.out.ro.r0 (some ⟨g1, 0, none⟩) 1 1 (cellsI ⟨xo, xa⟩) ?qq2 (H31.out.s0 _ rfl).src (oneI _) (by unfold maxLen; omega) (by omega) H31.out.ro.sz ?_
          case qq1 => go_simp
          case qq2 => go_simp
          intro v' w42 hown' hgrow hat
          obtain ⟨B0, d0, rfl, _⟩ := own_form hown'
          have H32 := Lib.hid (H31.out.a0 hown' hgrow hat)
          clear hown' hgrow hat
          try go_simp
          refine hK _ _ ⟨fun _ => H32.out.kp, ?_⟩; clear hK K
          refine wpAnyG_one (i := 16) (by kernel_rfl) rfl (fun K hK => ?_)
          refine step_append_src _ rfl _ _ 24 rfl base 3 i0 (.int .i64 0) 1 8 Try.underlying24 hi hz0 hz1 hz2 rfl (by decide) (.slice A1 k c1) k (rowI l1) ?qq1 H32.out.ro.r1 (some ⟨g31, 0, none⟩) 1 1 [.int .i64 li] ?qq2 (H32.out.s1 _ rfl).src (one_int li) (by unfold maxLen; omega) (by omega) H32.out.ro.sz ?_
          case qq1 => go_simp
          case qq2 => go_simp
          intro v' w43 hown' hgrow hat
          obtain ⟨B1, d1, rfl, _⟩ := own_form hown'
          have H33 := Lib.hid (H32.out.a1 hown' hgrow hat)
          clear hown' hgrow hat
          try go_simp
          refine hK _ _ ⟨fun _ => H33.out.kp, ?_⟩; clear hK K
          refine wpAnyG_one (i := 23) (by kernel_rfl) rfl (fun K hK => ?_)
          refine step_append_src _ rfl _ _ 24 rfl base 3 i0 (.int .i64 0) 1 8 Try.underlying24 hi hz0 hz1 hz2 rfl (by decide) (.slice A2 k c2) k (rowI l2) ?qq1 H33.out.ro.r2 (some ⟨g26, 0, none⟩) 1 1 [.int .i64 nd] ?qq2 (H33.out.s2 _ rfl).src (one_int nd) (by unfold maxLen; omega) (by omega) H33.out.ro.sz ?_
          case qq1 => go_simp
          case qq2 => go_simp
          intro v' w44 hown' hgrow hat
          obtain ⟨B2, d2, rfl, _⟩ := own_form hown'
          have H34 := Lib.hid (H33.out.a2 hown' hgrow hat)
          clear hown' hgrow hat
          try go_simp
          refine hK _ _ ⟨fun _ => H34.out.kp, ?_⟩; clear hK K
          try go_simp
          all_goals refine wpAnyG_listed (listed' := #[true, true, true, true, true, true, true, true, true, true, true, true, true, true, true, true, true, true, true, true, true, true, true, true, false, false, false, false, false, false, false, false, false]) (by kernel_rfl) ?_
          all_goals exact hT B0 B1 B2 d0 d1 d2 g1 g31 g26 w44 (Lib.hid H34.out)
    · obtain ⟨w45, hw45⟩ : ∃ X, World.alloc wd (.cells #[.int .i64 li] 3) = X := ⟨_, rfl⟩
      obtain ⟨g35, hg35⟩ : ∃ X, (World.heap wd).size = X := ⟨_, rfl⟩
      have H35 := Lib.hid HLd.out.b1
      rw [hw45, hg35] at H35
      go_simp
      refine hK _ _ ⟨fun _ => H35.out.kp, ?_⟩; clear hK K hw45 hg35
      refine wpAnyG_two (i := 8) (j := 22) (by kernel_rfl) rfl rfl (fun K hK => ?_) (fun K hK => ?_)
      · obtain ⟨w46, hw46⟩ : ∃ X, World.alloc w45 (.cells #[.int .i64 xo, .int .i64 xa] 49) = X := ⟨_, rfl⟩
        obtain ⟨g36, hg36⟩ : ∃ X, (World.heap w45).size = X := ⟨_, rfl⟩
        have H36 := Lib.hid H35.out.b0
        rw [hw46, hg36] at H36
        go_simp
        refine hK _ _ ⟨fun _ => H36.out.kp, ?_⟩; clear hK K hw46 hg36
        refine wpAnyG_two (i := 9) (j := 22) (by kernel_rfl) rfl rfl (fun K hK => ?_) (fun K hK => ?_)
        · refine step_append_src _ rfl _ _ 23 rfl base 49 j0 (.agg #[.int .i64 0, .int .i64 0]) 2 16 Try.underlying23 hj hy0 hy1 hy2 rfl (by decide) (.slice A0 k c0) k (l0.flatMap cellsI) ?qq1 H36.out.ro.r0 (some ⟨g36, 0, none⟩) 1 1 (cellsI ⟨xo, xa⟩) ?qq2 (H36.out.s0 _ rfl).src (oneI _) (by unfold maxLen; omega) (by omega) H36.out.ro.sz ?_
          case qq1 => go_simp
          case qq2 => go_simp
          intro v' w47 hown' hgrow hat
          obtain ⟨B0, d0, rfl, _⟩ := own_form hown'
          have H37 := Lib.hid (H36.out.a0 hown' hgrow hat)
          clear hown' hgrow hat
          try go_simp
          refine hK _ _ ⟨fun _ => H37.out.kp, ?_⟩; clear hK K
          refine wpAnyG_two (i := 16) (j := 22) (by kernel_rfl) rfl rfl (fun K hK => ?_) (fun K hK => ?_)
          · refine step_append_src _ rfl _ _ 24 rfl base 3 i0 (.int .i64 0) 1 8 Try.underlying24 hi hz0 hz1 hz2 rfl (by decide) (.slice A1 k c1) k (rowI l1) ?qq1 H37.out.ro.r1 (some ⟨g35, 0, none⟩) 1 1 [.int .i64 li] ?qq2 (H37.out.s1 _ rfl).src (one_int li) (by unfold maxLen; omega) (by omega) H37.out.ro.sz ?_
            case qq1 => go_simp
            case qq2 => go_simp
            intro v' w48 hown' hgrow hat
            obtain ⟨B1, d1, rfl, _⟩ := own_form hown'
            have H38 := Lib.hid (H37.out.a1 hown' hgrow hat)
            clear hown' hgrow hat
            try go_simp
            refine hK _ _ ⟨fun _ => H38.out.kp, ?_⟩; clear hK K
            refine wpAnyG_one (i := 22) (by kernel_rfl) rfl (fun K hK => ?_)
            obtain ⟨w49, hw49⟩ : ∃ X, World.alloc w48 (.cells #[.int .i64 nd] 3) = X := ⟨_, rfl⟩
            obtain ⟨g39, hg39⟩ : ∃ X, (World.heap w48).size = X := ⟨_, rfl⟩
            have H39 := Lib.hid H38.out.b2
            rw [hw49, hg39] at H39
            go_simp
            refine hK _ _ ⟨fun _ => H39.out.kp, ?_⟩; clear hK K hw49 hg39
            refine wpAnyG_one (i := 23) (by kernel_rfl) rfl (fun K hK => ?_)
            refine step_append_src _ rfl _ _ 24 rfl base 3 i0 (.int .i64 0) 1 8 Try.underlying24 hi hz0 hz1 hz2 rfl (by decide) (.slice A2 k c2) k (rowI l2) ?qq1 H39.out.ro.r2 (some ⟨g39, 0, none⟩) 1 1 [.int .i64 nd] ?qq2 (H39.out.s2 _ rfl).src (one_int nd) (by unfold maxLen; omega) (by omega) H39.out.ro.sz ?_
            case qq1 => go_simp
            case qq2 => go_simp
            intro v' w50 hown' hgrow hat
            obtain ⟨B2, d2, rfl, _⟩ := own_form hown'
            have H40 := Lib.hid (H39.out.a2 hown' hgrow hat)
            clear hown' hgrow hat
            try go_simp
            refine hK _ _ ⟨fun _ => H40.out.kp, ?_⟩; clear hK K
            try go_simp
            all_goals refine wpAnyG_listed (listed' := #[true, true, true, true, true, true, true, true, true, true, true, true, true, true, true, true, true, true, true, true, true, true, true, true, false, false, false, false, false, false, false, false, false]) (by kernel_rfl) ?_
            all_goals exact hT B0 B1 B2 d0 d1 d2 g36 g35 g39 w50 (Lib.hid H40.out)
          · obtain ⟨w51, hw51⟩ : ∃ X, World.alloc w47 (.cells #[.int .i64 nd] 3) = X := ⟨_, rfl⟩
            obtain ⟨g41, hg41⟩ : ∃ X, (World.heap w47).size = X := ⟨_, rfl⟩
            have H41 := Lib.hid H37.out.b2
            rw [hw51, hg41] at H41
            go_simp
            refine hK _ _ ⟨fun _ => H41.out.kp, ?_⟩; clear hK K hw51 hg41
            refine wpAnyG_one (i := 16) (by kernel_rfl) rfl (fun K hK => ?_)
            refine step_append_src _ rfl _ _ 24 rfl base 3 i0 (.int .i64 0) 1 8 Try.underlying24 hi hz0 hz1 hz2 rfl (by decide) (.slice A1 k c1) k (rowI l1) ?qq1 H41.out.ro.r1 (some ⟨g35, 0, none⟩) 1 1 [.int .i64 li] ?qq2 (H41.out.s1 _ rfl).src (one_int li) (by unfold maxLen; omega) (by omega) H41.out.ro.sz ?_
            case qq1 => go_simp
            case qq2 => go_simp
            intro v' w52 hown' hgrow hat
            obtain ⟨B1, d1, rfl, _⟩ := own_form hown'
            have H42 := Lib.hid (H41.out.a1 hown' hgrow hat)
            clear hown' hgrow hat
            try go_simp
            refine hK _ _ ⟨fun _ => H42.out.kp, ?_⟩; clear hK K
            refine wpAnyG_one (i := 23) (by kernel_rfl) rfl (fun K hK => ?_)
            refine step_append_src _ rfl _ _ 24 rfl base 3 i0 (.int .i64 0) 1 8 Try.underlying24 hi hz0 hz1 hz2 rfl (by decide) (.slice A2 k c2) k (rowI l2) ?qq1 H42.out.ro.r2 (some ⟨g41, 0, none⟩) 1 1 [.int .i64 nd] ?qq2 (H42.out.s2 _ rfl).src (one_int nd) (by unfold maxLen; omega) (by omega) H42.out.ro.sz ?_
            case qq1 => go_simp
            case qq2 => go_simp
            intro v' w53 hown' hgrow hat
            obtain ⟨B2, d2, rfl, _⟩ := own_form hown'
            have H43 := Lib.hid (H42.out.a2 hown' hgrow hat)
            clear hown' hgrow hat
            try go_simp
            refine hK _ _ ⟨fun _ => H43.out.kp, ?_⟩; clear hK K
            try go_simp
            all_goals refine wpAnyG_listed (listed' := #[true, true, true, true, true, true, true, true, true, true, true, true, true, true, true, true, true, true, true, true, true, true, true, true, false, false, false, false, false, false, false, false, false]) (by kernel_rfl) ?_
            all_goals exact hT B0 B1 B2 d0 d1 d2 g36 g35 g41 w53 (Lib.hid H43.out)
        · obtain ⟨w54, hw54⟩ : ∃ X, World.alloc w46 (.cells #[.int .i64 nd] 3) = X := ⟨_, rfl⟩
          obtain ⟨g44, hg44⟩ : ∃ X, (World.heap w46).size = X := ⟨_, rfl⟩
          have H44 := Lib.hid H36.out.b2
          rw [hw54, hg44] at H44
          go_simp
          refine hK _ _ ⟨fun _ => H44.out.kp, ?_⟩; clear hK K hw54 hg44
          refine wpAnyG_one (i := 9) (by kernel_rfl) rfl (fun K hK => ?_)
          refine step_append_src _ rfl _ _ 23 rfl base 49 j0 (.agg #[.int .i64 0, .int .i64 0]) 2 16 Try.underlying23 hj hy0 hy1 hy2 rfl (by decide) (.slice A0 k c0) k (l0.flatMap cellsI) ?qq1 H44.out.ro.r0 (some ⟨g36, 0, none⟩) 1 1 (cellsI ⟨xo, xa⟩) ?qq2 (H44.out.s0 _ rfl).src (oneI _) (by unfold maxLen; omega) (by omega) H44.out.ro.sz ?_
          case qq1 => go_simp
          case qq2 => go_simp
          intro v' w55 hown' hgrow hat
          obtain ⟨B0, d0, rfl, _⟩ := own_form hown'
          have H45 := Lib.hid (H44.out.a0 hown' hgrow hat)
          clear hown' hgrow hat
          try go_simp
          refine hK _ _ ⟨fun _ => H45.out.kp, ?_⟩; clear hK K
          refine wpAnyG_one (i := 16) (by kernel_rfl) rfl (fun K hK => ?_)
          refine step_append_src _ rfl _ _ 24 rfl base 3 i0 (.int .i64 0) 1 8 Try.underlying24 hi hz0 hz1 hz2 rfl (by decide) (.slice A1 k c1) k (rowI l1) ?qq1 H45.out.ro.r1 (some ⟨g35, 0, none⟩) 1 1 [.int .i64 li] ?qq2 (H45.out.s1 _ rfl).src (one_int li) (by unfold maxLen; omega) (by omega) H45.out.ro.sz ?_
          case qq1 => go_simp
          case qq2 => go_simp
          intro v' w56 hown' hgrow hat
          obtain ⟨B1, d1, rfl, _⟩ := own_form hown'
          have H46 := Lib.hid (H45.out.a1 hown' hgrow hat)
          clear hown' hgrow hat
          try go_simp
          refine hK _ _ ⟨fun _ => H46.out.kp, ?_⟩; clear hK K
          refine wpAnyG_one (i := 23) (by kernel_rfl) rfl (fun K hK => ?_)
          refine step_append_src _ rfl _ _ 24 rfl base 3 i0 (.int .i64 0) 1 8 Try.underlying24 hi hz0 hz1 hz2 rfl (by decide) (.slice A2 k c2) k (rowI l2) ?qq1 H46.out.ro.r2 (some ⟨g44, 0, none⟩) 1 1 [.int .i64 nd] ?qq2 (H46.out.s2 _ rfl).src (one_int nd) (by unfold maxLen; omega) (by omega) H46.out.ro.sz ?_
          case qq1 => go_simp
          case qq2 => go_simp
          intro v' w57 hown' hgrow hat
          obtain ⟨B2, d2, rfl, _⟩ := own_form hown'
          have H47 := Lib.hid (H46.out.a2 hown' hgrow hat)
          clear hown' hgrow hat
          try go_simp
          refine hK _ _ ⟨fun _ => H47.out.kp, ?_⟩; clear hK K
          try go_simp
          all_goals refine wpAnyG_listed (listed' := #[true, true, true, true, true, true, true, true, true, true, true, true, true, true, true, true, true, true, true, true, true, true, true, true, false, false, false, false, false, false, false, false, false]) (by kernel_rfl) ?_
          all_goals exact hT B0 B1 B2 d0 d1 d2 g36 g35 g44 w57 (Lib.hid H47.out)
      · obtain ⟨w58, hw58⟩ : ∃ X, World.alloc w45 (.cells #[.int .i64 nd] 3) = X := ⟨_, rfl⟩
        obtain ⟨g48, hg48⟩ : ∃ X, (World.heap w45).size = X := ⟨_, rfl⟩
        have H48 := Lib.hid H35.out.b2
        rw [hw58, hg48] at H48
        go_simp
        refine hK _ _ ⟨fun _ => H48.out.kp, ?_⟩; clear hK K hw58 hg48
        refine wpAnyG_one (i := 8) (by kernel_rfl) rfl (fun K hK => ?_)
        obtain ⟨w59, hw59⟩ : ∃ X, World.alloc w58 (.cells #[.int .i64 xo, .int .i64 xa] 49) = X := ⟨_, rfl⟩
        obtain ⟨g49, hg49⟩ : ∃ X, (World.heap w58).size = X := ⟨_, rfl⟩
        have H49 := Lib.hid H48.out.b0
        rw [hw59, hg49] at H49
        go_simp
        refine hK _ _ ⟨fun _ => H49.out.kp, ?_⟩; clear hK K hw59 hg49
        refine wpAnyG_one (i := 9) (by kernel_rfl) rfl (fun K hK => ?_)
        refine step_append_src _ rfl _ _ 23 rfl base 49 j0 (.agg #[.int .i64 0, .int .i64 0]) 2 16 Try.underlying23 hj hy0 hy1 hy2 rfl (by decide) (.slice A0 k c0) k (l0.flatMap cellsI) ?qq1 H49.out.ro.r0 (some ⟨g49, 0, none⟩) 1 1 (cellsI ⟨xo, xa⟩) ?qq2 (H49.out.s0 _ rfl).src (oneI _) (by unfold maxLen; omega) (by omega) H49.out.ro.sz ?_
        case qq1 => go_simp
        case qq2 => go_simp
        intro v' w60 hown' hgrow hat
        obtain ⟨B0, d0, rfl, _⟩ := own_form hown'
        have H50 := Lib.hid (H49.out.a0 hown' hgrow hat)
        clear hown' hgrow hat
        try go_simp
        refine hK _ _ ⟨fun _ => H50.out.kp, ?_⟩; clear hK K
        refine wpAnyG_one (i := 16) (by kernel_rfl) rfl (fun K hK => ?_)
        refine step_append_src _ rfl _ _ 24 rfl base 3 i0 (.int .i64 0) 1 8 Try.underlying24 hi hz0 hz1 hz2 rfl (by decide) (.slice A1 k c1) k (rowI l1) ?qq1 H50.out.ro.r1 (some ⟨g35, 0, none⟩) 1 1 [.int .i64 li] ?qq2 (H50.out.s1 _ rfl).src (one_int li) (by unfold maxLen; omega) (by omega) H50.out.ro.sz ?_
        case qq1 => go_simp
        case qq2 => go_simp
        intro v' w61 hown' hgrow hat
        obtain ⟨B1, d1, rfl, _⟩ := own_form hown'
        have H51 := Lib.hid (H50.out.a1 hown' hgrow hat)
        clear hown' hgrow hat
        try go_simp
        refine hK _ _ ⟨fun _ => H51.out.kp, ?_⟩; clear hK K
        refine wpAnyG_one (i := 23) (by kernel_rfl) rfl (fun K hK => ?_)
        refine step_append_src _ rfl _ _ 24 rfl base 3 i0 (.int .i64 0) 1 8 Try.underlying24 hi hz0 hz1 hz2 rfl (by decide) (.slice A2 k c2) k (rowI l2) ?qq1 H51.out.ro.r2 (some ⟨g48, 0, none⟩) 1 1 [.int .i64 nd] ?qq2 (H51.out.s2 _ rfl).src (one_int nd) (by unfold maxLen; omega) (by omega) H51.out.ro.sz ?_
        case qq1 => go_simp
        case qq2 => go_simp
        intro v' w62 hown' hgrow hat
        obtain ⟨B2, d2, rfl, _⟩ := own_form hown'
        have H52 := Lib.hid (H51.out.a2 hown' hgrow hat)
        clear hown' hgrow hat
        try go_simp
        refine hK _ _ ⟨fun _ => H52.out.kp, ?_⟩; clear hK K
        try go_simp
        all_goals refine wpAnyG_listed (listed' := #[true, true, true, true, true, true, true, true, true, true, true, true, true, true, true, true, true, true, true, true, true, true, true, true, false, false, false, false, false, false, false, false, false]) (by kernel_rfl) ?_
        all_goals exact hT B0 B1 B2 d0 d1 d2 g49 g35 g48 w62 (Lib.hid H52.out)
    · obtain ⟨w63, hw63⟩ : ∃ X, World.alloc wd (.cells #[.int .i64 nd] 3) = X := ⟨_, rfl⟩
      obtain ⟨g53, hg53⟩ : ∃ X, (World.heap wd).size = X := ⟨_, rfl⟩
      have H53 := Lib.hid HLd.out.b2
      rw [hw63, hg53] at H53
      go_simp
      refine hK _ _ ⟨fun _ => H53.out.kp, ?_⟩; clear hK K hw63 hg53
      refine wpAnyG_two (i := 8) (j := 15) (by kernel_rfl) rfl rfl (fun K hK => ?_) (fun K hK => ?_)
      · obtain ⟨w64, hw64⟩ : ∃ X, World.alloc w63 (.cells #[.int .i64 xo, .int .i64 xa] 49) = X := ⟨_, rfl⟩
        obtain ⟨g54, hg54⟩ : ∃ X, (World.heap w63).size = X := ⟨_, rfl⟩
        have H54 := Lib.hid H53.out.b0
        rw [hw64, hg54] at H54
        go_simp
        refine hK _ _ ⟨fun _ => H54.out.kp, ?_⟩; clear hK K hw64 hg54
        refine wpAnyG_two (i := 9) (j := 15) (by kernel_rfl) rfl rfl (fun K hK => ?_) (fun K hK => ?_)
        · refine step_append_src _ rfl _ _ 23 rfl base 49 j0 (.agg #[.int .i64 0, .int .i64 0]) 2 16 Try.underlying23 hj hy0 hy1 hy2 rfl (by decide) (.slice A0 k c0) k (l0.flatMap cellsI) ?qq1 H54.out.ro.r0 (some ⟨g54, 0, none⟩) 1 1 (cellsI ⟨xo, xa⟩) ?qq2 (H54.out.s0 _ rfl).src (oneI _) (by unfold maxLen; omega) (by omega) H54.out.ro.sz ?_
          case qq1 => go_simp
          case qq2 => go_simp
          intro v' w65 hown' hgrow hat
          obtain ⟨B0, d0, rfl, _⟩ := own_form hown'
          have H55 := Lib.hid (H54.out.a0 hown' hgrow hat)
          clear hown' hgrow hat
          try go_simp
          refine hK _ _ ⟨fun _ => H55.out.kp, ?_⟩; clear hK K
          refine wpAnyG_one (i := 15) (by kernel_rfl) rfl (fun K hK => ?_)
          obtain ⟨w66, hw66⟩ : ∃ X, World.alloc w65 (.cells #[.int .i64 li] 3) = X := ⟨_, rfl⟩
          obtain ⟨g56, hg56⟩ : ∃ X, (World.heap w65).size = X := ⟨_, rfl⟩
          have H56 := Lib.hid H55.out.b1
          rw [hw66, hg56] at H56
          go_simp
          refine hK _ _ ⟨fun _ => H56.out.kp, ?_⟩; clear hK K hw66 hg56
          refine wpAnyG_one (i := 16) (by kernel_rfl) rfl (fun K hK => ?_)
          refine step_append_src _ rfl _ _ 24 rfl base 3 i0 (.int .i64 0) 1 8 Try.underlying24 hi hz0 hz1 hz2 rfl (by decide) (.slice A1 k c1) k (rowI l1) ?qq1 H56.out.ro.r1 (some ⟨g56, 0, none⟩) 1 1 [.int .i64 li] ?qq2 (H56.out.s1 _ rfl).src (one_int li) (by unfold maxLen; omega) (by omega) H56.out.ro.sz ?_
          case qq1 => go_simp
          case qq2 => go_simp
          intro v' w67 hown' hgrow hat
          obtain ⟨B1, d1, rfl, _⟩ := own_form hown'
          have H57 := Lib.hid (H56.out.a1 hown' hgrow hat)
          clear hown' hgrow hat
          try go_simp
          refine hK _ _ ⟨fun _ => H57.out.kp, ?_⟩; clear hK K
          refine wpAnyG_one (i := 23) (by kernel_rfl) rfl (fun K hK => ?_)
          refine step_append_src _ rfl _ _ 24 rfl base 3 i0 (.int .i64 0) 1 8 Try.underlying24 hi hz0 hz1 hz2 rfl (by decide) (.slice A2 k c2) k (rowI l2) ?qq1 H57.out.ro.r2 (some ⟨g53, 0, none⟩) 1 1 [.int .i64 nd] ?qq2 (H57.out.s2 _ rfl).src (one_int nd) (by unfold maxLen; omega) (by omega) H57.out.ro.sz ?_
          case qq1 => go_simp
          case qq2 => go_simp
          intro v' w68 hown' hgrow hat
          obtain ⟨B2, d2, rfl, _⟩ := own_form hown'
          have H58 := Lib.hid (H57.out.a2 hown' hgrow hat)
          clear hown' hgrow hat
          try go_simp
          refine hK _ _ ⟨fun _ => H58.out.kp, ?_⟩; clear hK K
          try go_simp
          all_goals refine wpAnyG_listed (listed' := #[true, true, true, true, true, true, true, true, true, true, true, true, true, true, true, true, true, true, true, true, true, true, true, true, false, false, false, false, false, false, false, false, false]) (by kernel_rfl) ?_
          all_goals exact hT B0 B1 B2 d0 d1 d2 g54 g56 g53 w68 (Lib.hid H58.out)
        · obtain ⟨w69, hw69⟩ : ∃ X, World.alloc w64 (.cells #[.int .i64 li] 3) = X := ⟨_, rfl⟩
          obtain ⟨g59, hg59⟩ : ∃ X, (World.heap w64).size = X := ⟨_, rfl⟩
          have H59 := Lib.hid H54.out.b1
          rw [hw69, hg59] at H59
          go_simp
          refine hK _ _ ⟨fun _ => H59.out.kp, ?_⟩; clear hK K hw69 hg59
          refine wpAnyG_one (i := 9) (by kernel_rfl) rfl (fun K hK => ?_)
          refine step_append_src _ rfl _ _ 23 rfl base 49 j0 (.agg #[.int .i64 0, .int .i64 0]) 2 16 Try.underlying23 hj hy0 hy1 hy2 rfl (by decide) (.slice A0 k c0) k (l0.flatMap cellsI) ?qq1 H59.out.ro.r0 (some ⟨g54, 0, none⟩) 1 1 (cellsI ⟨xo, xa⟩) ?qq2 (H59.out.s0 _ rfl).src (oneI _) (by unfold maxLen; omega) (by omega) H59.out.ro.sz ?_
          case qq1 => go_simp
          case qq2 => go_simp
          intro v' w70 hown' hgrow hat
          obtain ⟨B0, d0, rfl, _⟩ := own_form hown'
          have H60 := Lib.hid (H59.out.a0 hown' hgrow hat)
          clear hown' hgrow hat
          try go_simp
          refine hK _ _ ⟨fun _ => H60.out.kp, ?_⟩; clear hK K
          refine wpAnyG_one (i := 16) (by kernel_rfl) rfl (fun K hK => ?_)
          refine step_append_src _ rfl _ _ 24 rfl base 3 i0 (.int .i64 0) 1 8 Try.underlying24 hi hz0 hz1 hz2 rfl (by decide) (.slice A1 k c1) k (rowI l1) ?qq1 H60.out.ro.r1 (some ⟨g59, 0, none⟩) 1 1 [.int .i64 li] ?qq2 (H60.out.s1 _ rfl).src (one_int li) (by unfold maxLen; omega) (by omega) H60.out.ro.sz ?_
          case qq1 => go_simp
          case qq2 => go_simp
          intro v' w71 hown' hgrow hat
          obtain ⟨B1, d1, rfl, _⟩ := own_form hown'
          have H61 := Lib.hid (H60.out.a1 hown' hgrow hat)
          clear hown' hgrow hat
          try go_simp
          refine hK _ _ ⟨fun _ => H61.out.kp, ?_⟩; clear hK K
          refine wpAnyG_one (i := 23) (by kernel_rfl) rfl (fun K hK => ?_)
          refine step_append_src _ rfl _ _ 24 rfl base 3 i0 (.int .i64 0) 1 8 Try.underlying24 hi hz0 hz1 hz2 rfl (by decide) (.slice A2 k c2) k (rowI l2) ?qq1 H61.out.ro.r2 (some ⟨g53, 0, none⟩) 1 1 [.int .i64 nd] ?qq2 (H61.out.s2 _ rfl).src (one_int nd) (by unfold maxLen; omega) (by omega) H61.out.ro.sz ?_
          case qq1 => go_simp
          case qq2 => go_simp
          intro v' w72 hown' hgrow hat
          obtain ⟨B2, d2, rfl, _⟩ := own_form hown'
          have H62 := Lib.hid (H61.out.a2 hown' hgrow hat)
          clear hown' hgrow hat
          try go_simp
          refine hK _ _ ⟨fun _ => H62.out.kp, ?_⟩; clear hK K
          try go_simp
          all_goals refine wpAnyG_listed (listed' := #[true, true, true, true, true, true, true, true, true, true, true, true, true, true, true, true, true, true, true, true, true, true, true, true, false, false, false, false, false, false, false, false, false]) (by kernel_rfl) ?_
          all_goals exact hT B0 B1 B2 d0 d1 d2 g54 g59 g53 w72 (Lib.hid H62.out)
      · obtain ⟨w73, hw73⟩ : ∃ X, World.alloc w63 (.cells #[.int .i64 li] 3) = X := ⟨_, rfl⟩
        obtain ⟨g63, hg63⟩ : ∃ X, (World.heap w63).size = X := ⟨_, rfl⟩
        have H63 := Lib.hid H53.out.b1
        rw [hw73, hg63] at H63
        go_simp
        refine hK _ _ ⟨fun _ => H63.out.kp, ?_⟩; clear hK K hw73 hg63
        refine wpAnyG_one (i := 8) (by kernel_rfl) rfl (fun K hK => ?_)
        obtain ⟨w74, hw74⟩ : ∃ X, World.alloc w73 (.cells #[.int .i64 xo, .int .i64 xa] 49) = X := ⟨_, rfl⟩
        obtain ⟨g64, hg64⟩ : ∃ X, (World.heap w73).size = X := ⟨_, rfl⟩
        have H64 := Lib.hid H63.out.b0
        rw [hw74, hg64] at H64
        go_simp
        refine hK _ _ ⟨fun _ => H64.out.kp, ?_⟩; clear hK K hw74 hg64
        refine wpAnyG_one (i := 9) (by kernel_rfl) rfl (fun K hK => ?_)
        refine step_append_src _ rfl _ _ 23 rfl base 49 j0 (.agg #[.int .i64 0, .int .i64 0]) 2 16 Try.underlying23 hj hy0 hy1 hy2 rfl (by decide) (.slice A0 k c0) k (l0.flatMap cellsI) ?qq1 H64.out.ro.r0 (some ⟨g64, 0, none⟩) 1 1 (cellsI ⟨xo, xa⟩) ?qq2 (H64.out.s0 _ rfl).src (oneI _) (by unfold maxLen; omega) (by omega) H64.out.ro.sz ?_
        case qq1 => go_simp
        case qq2 => go_simp
        intro v' w75 hown' hgrow hat
        obtain ⟨B0, d0, rfl, _⟩ := own_form hown'
        have H65 := Lib.hid (H64.out.a0 hown' hgrow hat)
        clear hown' hgrow hat
        try go_simp
        refine hK _ _ ⟨fun _ => H65.out.kp, ?_⟩; clear hK K
        refine wpAnyG_one (i := 16) (by kernel_rfl) rfl (fun K hK => ?_)
        refine step_append_src _ rfl _ _ 24 rfl base 3 i0 (.int .i64 0) 1 8 Try.underlying24 hi hz0 hz1 hz2 rfl (by decide) (.slice A1 k c1) k (rowI l1) ?qq1 H65.out.ro.r1 (some ⟨g63, 0, none⟩) 1 1 [.int .i64 li] ?qq2 (H65.out.s1 _ rfl).src (one_int li) (by unfold maxLen; omega) (by omega) H65.out.ro.sz ?_
        case qq1 => go_simp
        case qq2 => go_simp
        intro v' w76 hown' hgrow hat
        obtain ⟨B1, d1, rfl, _⟩ := own_form hown'
        have H66 := Lib.hid (H65.out.a1 hown' hgrow hat)
        clear hown' hgrow hat
        try go_simp
        refine hK _ _ ⟨fun _ => H66.out.kp, ?_⟩; clear hK K
        refine wpAnyG_one (i := 23) (by kernel_rfl) rfl (fun K hK => ?_)
        refine step_append_src _ rfl _ _ 24 rfl base 3 i0 (.int .i64 0) 1 8 Try.underlying24 hi hz0 hz1 hz2 rfl (by decide) (.slice A2 k c2) k (rowI l2) ?qq1 H66.out.ro.r2 (some ⟨g53, 0, none⟩) 1 1 [.int .i64 nd] ?qq2 (H66.out.s2 _ rfl).src (one_int nd) (by unfold maxLen; omega) (by omega) H66.out.ro.sz ?_
        case qq1 => go_simp
        case qq2 => go_simp
        intro v' w77 hown' hgrow hat
        obtain ⟨B2, d2, rfl, _⟩ := own_form hown'
        have H67 := Lib.hid (H66.out.a2 hown' hgrow hat)
        clear hown' hgrow hat
        try go_simp
        refine hK _ _ ⟨fun _ => H67.out.kp, ?_⟩; clear hK K
        try go_simp
        all_goals refine wpAnyG_listed (listed' := #[true, true, true, true, true, true, true, true, true, true, true, true, true, true, true, true, true, true, true, true, true, true, true, true, false, false, false, false, false, false, false, false, false]) (by kernel_rfl) ?_
        all_goals exact hT B0 B1 B2 d0 d1 d2 g64 g63 g53 w77 (Lib.hid H67.out)
  case tail =>
    intro B0 B1 B2 d0 d1 d2 g0 g1 g2 W HLn
    clear hy0 hy1 hy2 hj hz0 hz1 hz2 hi HLd HS
    have hPW := HPC.out.kp HLn.out.kp (fun h => h (.inl (.inr rfl)))
    have x0 := hPW.at_ 0 _ rfl
    have x1 := hPW.at_ 1 _ rfl
    have x2 := hPW.at_ 2 _ rfl
    have f0 := hPW.fz 0 (by simp)
    have f1 := hPW.fz 1 (by simp)
    have f2 := hPW.fz 2 (by simp)
    have HPW := Lib.hid hPW
    clear hPW
    refine wpAnyG_one (i := 24) (by kernel_rfl) rfl (fun K hK => ?_)
    go_simp
    refine hK _ _ ⟨fun _ => HLn.out.kp, ?_⟩; clear hK K
    refine wpAnyG_one (i := 25) (by kernel_rfl) rfl (fun K hK => ?_)
    go_simp
    refine hK _ _ ⟨fun _ => HLn.out.kp, ?_⟩; clear hK K
    refine wpAnyG_oneL (i := 26) (by kernel_rfl) rfl (by kernel_rfl) (fun K hK => ?_)
    go_simp
    refine hK _ _ ?_; clear hK K
    refine wpAnyG_oneL (i := 27) (by kernel_rfl) rfl (by kernel_rfl) (fun K hK => ?_)
    go_simp
    refine hK _ _ ?_; clear hK K
    refine wpAnyG_oneL (i := 28) (by kernel_rfl) rfl (by kernel_rfl) (fun K hK => ?_)
    go_simp
    refine hK _ _ ?_; clear hK K
    refine wpAnyG_oneL (i := 29) (by kernel_rfl) rfl (by kernel_rfl) (fun K hK => ?_)
    go_simp
    refine hK _ _ ?_; clear hK K
    refine wpAnyG_oneL (i := 30) (by kernel_rfl) rfl (by kernel_rfl) (fun K hK => ?_)
    go_simp
    refine hK _ _ ?_; clear hK K
    refine wpAnyG_oneL (i := 31) (by kernel_rfl) rfl (by kernel_rfl) (fun K hK => ?_)
    go_simp
    refine hK _ _ ?_; clear hK K
    refine wpAnyG_oneL (i := 32) (by kernel_rfl) rfl (by kernel_rfl) (fun K hK => ?_)
    go_simp
    refine hK _ _ ?_; clear hK K
    try go_simp
    refine wpAnyG_done (by kernel_rfl) ?_ _
    try go_simp
    go_wp2_with fail
    have HW3 : Hid (IsLn base F pb (k + 1) (l0 ++ [⟨xo, xa⟩]) (l1 ++ [li]) (l2 ++ [nd]) v3 v4 w (.returned (.tuple #[])) (((W.setCell ⟨pb, 0, none⟩ (.slice B0 (k + 1) d0)).setCell ⟨pb, 1, none⟩ (.slice B1 (k + 1) d1)).setCell ⟨pb, 2, none⟩ (.slice B2 (k + 1) d2))) := Lib.hid ⟨⟨_, rfl⟩, B0, d0, B1, d1, B2, d2, ((HPW.out.put 0 (by simp) _).put 1 (by simp) _).put 2 (by simp) _, (HLn.out.ro.less (G := fun j => F j ∨ j = pb) (fun j hj => .inl hj)).kp ((((Kp.refl (fun j => j = pb) W).setCell (p := ⟨pb, 0, none⟩) (fun _ => rfl) _).setCell (p := ⟨pb, 1, none⟩) (fun _ => rfl) _).setCell (p := ⟨pb, 2, none⟩) (fun _ => rfl) _) (fun j hj e => HLn.out.ro.f0 j (.inl (.inr e)) hj) (fun j hj e => HLn.out.ro.f1 j (.inl (.inr e)) hj) (fun j hj e => HLn.out.ro.f2 j (.inl (.inr e)) hj), ?kp3⟩
    case kp3 =>
      have k1 : Kp (fun j => ¬ F j) w1 W := ⟨HLn.out.kp.os, HLn.out.kp.tape, HLn.out.kp.output, HLn.out.kp.size, fun j hj hn => HLn.out.kp.block j hj (fun h => h (.inl (.inl (Classical.byContradiction fun hF => hn hF))))⟩
      have k2 : Kp (fun j => ¬ F j) w W := HK1.out.1.trans k1
      exact ((k2.setCell (p := ⟨pb, 0, none⟩) (fun _ => HFP.out) _).setCell (p := ⟨pb, 1, none⟩) (fun _ => HFP.out) _).setCell (p := ⟨pb, 2, none⟩) (fun _ => HFP.out) _
    clear x0 x1 x2 f0 f1 f2
    rw [rounds_succ]
    go_wp2_with fail
    go_end0
    exact HW3.out
end Go.Proofs.Ythfdmpcnebjkjaa
