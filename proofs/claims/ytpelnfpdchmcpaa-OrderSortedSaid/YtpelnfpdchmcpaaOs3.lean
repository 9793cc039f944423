/-
  Circles, of one thing that leads nowhere: the least of each circle.
-/
import Derived.Test.YtpelnfpdchmcpaaOs2
import Derived.Deep.DeepCutAuto
namespace Go.Proofs.Ytpelnfpdchmcpaa
open Go.RowKit
set_option linter.unusedSimpArgs false
set_option linter.unusedVariables false
theorem bl_one {w : World} (o : Obj) : Below w.heap.size w (w.alloc o) := (Below.refl _ _).alloc (Nat.le_refl _) _
def IsLeast (w : World) (e : Ending) (W' : World) : Prop := ∃ h, e = .returned (.slice (some ⟨h, 0, none⟩) 1 1) ∧ Cells W' h [.int .i64 0] ∧ w.heap.size ≤ h ∧ Below w.heap.size w W'
def W3 (w : World) : World := ((w.alloc (.cells #[.int .i64 0] 3)).alloc (.cells #[.int .i64 0] 3)).alloc (.cells #[.int .i64 0] 3)
theorem w3_size (w : World) : (W3 w).heap.size = w.heap.size + 1 + 1 + 1 := by simp [W3]
theorem w3_below (w : World) : Below w.heap.size w (W3 w) := (((Below.refl _ _).alloc (Nat.le_refl _) _).alloc (by simp) _).alloc (by simp; omega) _
theorem w3_at (w : World) : Cells (W3 w) w.heap.size [.int .i64 0] ∧ Cells (W3 w) (w.heap.size + 1) [.int .i64 0] ∧ Cells (W3 w) (w.heap.size + 1 + 1) [.int .i64 0] := by
  have e1 : (w.alloc (.cells #[.int .i64 0] 3)).heap.size = w.heap.size + 1 := by simp
  have e2 : ((w.alloc (.cells #[.int .i64 0] 3)).alloc (.cells #[.int .i64 0] 3)).heap.size = w.heap.size + 1 + 1 := by simp
  have a0 : Cells (w.alloc (.cells #[.int .i64 0] 3)) w.heap.size [.int .i64 0] := Cells.new w [.int .i64 0] _
  have a1 := Cells.new (w.alloc (.cells #[.int .i64 0] 3)) [.int .i64 0] 3
  have a2 := Cells.new ((w.alloc (.cells #[.int .i64 0] 3)).alloc (.cells #[.int .i64 0] 3)) [.int .i64 0] 3
  rw [e1] at a1
  rw [e2] at a2
  exact ⟨(a0.on (bl_one _)).on (bl_one _), a1.on (bl_one _), a2⟩
theorem ws_new (w : World) (b s l h : Nat) (hb : Cells w b [.slice none 0 0]) (hs : Cells (W3 w) s [.int .i64 0]) (hl : Cells (W3 w) l [.int .i64 0]) (hh : Cells (W3 w) h [.int .i64 0]) (n : w.heap.size ≤ s ∧ w.heap.size ≤ l ∧ w.heap.size ≤ h ∧ s ≠ l ∧ s ≠ h ∧ l ≠ h) :
    WS b (w.heap.size + 1 + 1 + 1) s l h (.slice none 0 0) (.slice none 0 0) 0 0 0 0 (((W3 w).alloc (.cells #[.slice (some ⟨b, 0, none⟩) 1 1, .slice none 0 0, .slice (some ⟨s, 0, none⟩) 1 1, .slice (some ⟨l, 0, none⟩) 1 1, .slice none 0 0, .slice (some ⟨h, 0, none⟩) 1 1, .int .i64 0] 68)).drew) ∧ w.heap.size ≤ w.heap.size + 1 + 1 + 1 ∧ w.heap.size ≤ s ∧ w.heap.size ≤ l ∧ w.heap.size ≤ h ∧ Below w.heap.size w (((W3 w).alloc (.cells #[.slice (some ⟨b, 0, none⟩) 1 1, .slice none 0 0, .slice (some ⟨s, 0, none⟩) 1 1, .slice (some ⟨l, 0, none⟩) 1 1, .slice none 0 0, .slice (some ⟨h, 0, none⟩) 1 1, .int .i64 0] 68)).drew) := by
  have hbl := hb.lt
  have h1 := hs.lt
  have h2 := hl.lt
  have h3 := hh.lt
  rw [w3_size] at h1 h2 h3
  have q := Cells.new (W3 w) [.slice (some ⟨b, 0, none⟩) 1 1, .slice none 0 0, .slice (some ⟨s, 0, none⟩) 1 1, .slice (some ⟨l, 0, none⟩) 1 1, .slice none 0 0, .slice (some ⟨h, 0, none⟩) 1 1, .int .i64 0] 68
  rw [w3_size] at q
  have k : ∀ X : World, Kp (fun _ => False) X X.drew := fun X => (Kp.refl _ _).drew
  have kn := bl_one (w := W3 w) (.cells #[.slice (some ⟨b, 0, none⟩) 1 1, .slice none 0 0, .slice (some ⟨s, 0, none⟩) 1 1, .slice (some ⟨l, 0, none⟩) 1 1, .slice none 0 0, .slice (some ⟨h, 0, none⟩) 1 1, .int .i64 0] 68)
  exact ⟨⟨q.kp (k _) id, (hs.on kn).kp (k _) id, (hl.on kn).kp (k _) id, (hh.on kn).kp (k _) id, ((hb.on (w3_below w)).on kn).kp (k _) id, by omega, by omega, by omega, by omega, by omega, by omega, by omega, by omega, by omega, by omega⟩, by omega, n.1, n.2.1, n.2.2.1, ((w3_below w).trans (kn.mono (w3_below w).size)).drew⟩
set_option maxRecDepth 100000 in
set_option maxHeartbeats 8000000 in
theorem least_one (b : Nat) (w : World) (hb : Cells w b [.slice none 0 0]) :
    Calls Try.prog 24 #[.slice (some ⟨b, 0, none⟩) 1 1] w (IsLeast w) := by
  obtain ⟨i0, hi, hz0, hz1, hz2⟩ := info_parts info_int
  have hmk : ∀ W, (Instr.makeSlice 26 (.int .i64 1) (.int .i64 1)).run Try.prog W = .ok (.slice (some ⟨W.heap.size, 0, none⟩) 1 1) (W.alloc (.cells #[.int .i64 0] 3)) := fun W => by kernel_rfl
  have HC := Lib.hid hb
  have hbl := hb.lt
  clear hb
  go_enter Try.func24, Try.ntmps24
  go_upto_region 2 with fail
  go_cut [4, 9, 10, 11, 12, 13, 14, 15, 16, 17] (fun p4 p9 p10 p11 p12 p13 p14 p15 p16 p17 wx => ∃ q s l h, p4 = .pointer (some ⟨q, 0, none⟩) ∧ Hid (WS b q s l h (.slice none 0 0) (.slice none 0 0) 0 0 0 0 wx ∧ w.heap.size ≤ q ∧ w.heap.size ≤ s ∧ w.heap.size ≤ l ∧ w.heap.size ≤ h ∧ Below w.heap.size w wx))
  case first =>
    go_region
    all_goals go_simp
    all_goals apply_assumption
    all_goals go_meet
    all_goals exact ⟨w.heap.size + 1 + 1 + 1, _, _, _, rfl, Lib.hid (ws_new w b _ _ _ HC.out (by first | exact (w3_at w).1 | exact (w3_at w).2.1 | exact (w3_at w).2.2) (by first | exact (w3_at w).1 | exact (w3_at w).2.1 | exact (w3_at w).2.2) (by first | exact (w3_at w).1 | exact (w3_at w).2.1 | exact (w3_at w).2.2) (by omega))⟩
  case rest =>
    obtain ⟨q, s, l, h, rfl, HH⟩ := hcut
    have H := Lib.hid HH.out.1
    have HG := Lib.hid HH.out.2
    clear HH
    have c0 := H.out.qc.at_ 0 _ rfl
    have c1 := H.out.qc.at_ 1 _ rfl
    have c2 := H.out.qc.at_ 2 _ rfl
    have c3 := H.out.qc.at_ 3 _ rfl
    have c4 := H.out.qc.at_ 4 _ rfl
    have c5 := H.out.qc.at_ 5 _ rfl
    have c6 := H.out.qc.at_ 6 _ rfl
    have f1 := H.out.qc.fz 1 (by simp)
    have f4 := H.out.qc.fz 4 (by simp)
    have f6 := H.out.qc.fz 6 (by simp)
    have s0 := H.out.sc.at_ 0 _ rfl
    have l0 := H.out.lc.at_ 0 _ rfl
    have h0 := H.out.hc.at_ 0 _ rfl
    have sf := H.out.sc.fz 0 (by simp)
    have lf := H.out.lc.fz 0 (by simp)
    have hf := H.out.hc.fz 0 (by simp)
    have b0 := H.out.bc.at_ 0 _ rfl
    have n1 := H.out.n1
    have n2 := H.out.n2
    have n3 := H.out.n3
    have n4 := H.out.n4
    have n5 := H.out.n5
    have n6 := H.out.n6
    have n7 := H.out.n7
    have n8 := H.out.n8
    have n9 := H.out.n9
    have n0 := H.out.n0
    have m1 : ¬ s = q := fun e => n1 e.symm
    have m2 : ¬ l = q := fun e => n2 e.symm
    have m3 : ¬ h = q := fun e => n3 e.symm
    have m4 : ¬ l = s := fun e => n4 e.symm
    have m5 : ¬ h = s := fun e => n5 e.symm
    have m6 : ¬ h = l := fun e => n6 e.symm
    have m7 : ¬ q = b := fun e => n7 e.symm
    have m8 : ¬ s = b := fun e => n8 e.symm
    have m9 : ¬ l = b := fun e => n9 e.symm
    have m0 : ¬ h = b := fun e => n0 e.symm
    go_wp2_with fail
    refine wp_loop_rounds 2 ?_
    rw [rounds_succ]
    go_wp2_with fail
    rw [rounds_succ]
    go_wp2_with fail
    obtain ⟨W2, hW2⟩ : ∃ X, wc.setCell ⟨h, 0, none⟩ (.int .i64 (-1)) = X := ⟨_, rfl⟩
    have H2 := Lib.hid (H.out.setH (-1))
    rw [hW2] at H2 ⊢
    have hsz : W2.heap.size = wc.heap.size := by rw [← hW2]; simp [World.setCell]
    have hg := HG.out
    have hsw := hg.2.2.2.2.size
    have HB2 : Hid (Below w.heap.size w W2) := Lib.hid (by rw [← hW2]; exact hg.2.2.2.2.trans ((kp_set wc h 0 _).below (by omega) fun j hj => by have hj' : j = h := hj; omega))
    have cF := Lib.hid (from_one w.heap.size b q s l h W2 H2.out ⟨hg.1, hg.2.1, hg.2.2.1, hg.2.2.2.1, by omega⟩)
    clear hW2 hsz hg hsw
    clear c0 c1 c2 c3 c4 c5 c6 f1 f4 f6 s0 l0 h0 sf lf hf b0
    have c0 := H2.out.qc.at_ 0 _ rfl
    have c1 := H2.out.qc.at_ 1 _ rfl
    have c2 := H2.out.qc.at_ 2 _ rfl
    have c3 := H2.out.qc.at_ 3 _ rfl
    have c4 := H2.out.qc.at_ 4 _ rfl
    have c5 := H2.out.qc.at_ 5 _ rfl
    have c6 := H2.out.qc.at_ 6 _ rfl
    have f1 := H2.out.qc.fz 1 (by simp)
    have f4 := H2.out.qc.fz 4 (by simp)
    have f6 := H2.out.qc.fz 6 (by simp)
    have s0 := H2.out.sc.at_ 0 _ rfl
    have l0 := H2.out.lc.at_ 0 _ rfl
    have h0 := H2.out.hc.at_ 0 _ rfl
    have sf := H2.out.sc.fz 0 (by simp)
    have lf := H2.out.lc.fz 0 (by simp)
    have hf := H2.out.hc.fz 0 (by simp)
    have b0 := H2.out.bc.at_ 0 _ rfl
    refine wp_loop_rounds 2 ?_
    rw [rounds_succ]
    go_wp2_with fail
    refine cF.out.mono ?_
    rintro e W3 ⟨⟨_, rfl⟩, wk, hd, H3, hb3⟩
    have H4 := Lib.hid H3
    clear H3
    clear c0 c1 c2 c3 c4 c5 c6 f1 f4 f6 s0 l0 h0 sf lf hf b0
    have c5 := H4.out.qc.at_ 5 _ rfl
    go_wp2_with fail
    rw [rounds_succ]
    go_wp2_with fail
    go_ret
    exact ⟨h, rfl, H4.out.hc, HG.out.2.2.2.1, HB2.out.trans hb3⟩
end Go.Proofs.Ytpelnfpdchmcpaa
