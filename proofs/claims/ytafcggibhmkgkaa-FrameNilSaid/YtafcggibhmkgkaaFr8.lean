/-
  A frame: the chapter's example.
-/
import Derived.Test.YtafcggibhmkgkaaFr7
namespace Go.Proofs.Ytafcggibhmkgkaa
open Go.RowKit
set_option linter.unusedSimpArgs false
set_option linter.unusedVariables false
attribute [local go_sem] run_store_cplx
theorem vn_field (k n : Int) (x y : Nat) : ∀ w, (Instr.field 27 (vV k n x y) 1).run Try.prog w = .ok (.int .i64 n) w := fun _ => by kernel_rfl
set_option maxRecDepth 100000 in
set_option maxHeartbeats 4000000 in
theorem frame_lives (w : World) : Calls Try.prog 23 #[] w fun e w' => e = .returned (.bool true) ∧ Below w.heap.size w w' := by
  go_enter Try.func23, Try.ntmps23
  go_wp2_with fail
  refine (plain_any _).mono ?_
  rintro e w1 ⟨b, k, l, rfl, hp, hf3, hbw, hlw, hbl, hb1⟩
  have hbs : b < w1.heap.size := World.block_lt_of_cell? _ _ hp.c0
  have q3 := hp.c3
  have HP := Lib.hid hp
  have HB1 := Lib.hid hb1
  clear hb1 hp
  go_wp2_with fail
  obtain ⟨W0, hW0⟩ : ∃ W0, (w1.setCell ⟨b, 3, none⟩ (.slice (some ⟨w1.heap.size + 1, 0, none⟩) 1 1)).alloc (.cells #[.slice (some ⟨b, 0, none⟩) 1 1] 37) = W0 := ⟨_, rfl⟩
  have z0 : W0.heap.size = w1.heap.size + 1 := by rw [← hW0]; simp
  rw [hW0]
  obtain ⟨W1, hW1⟩ : ∃ W1, W0.alloc (.cells #[.int .i64 1] 24) = W1 := ⟨_, rfl⟩
  have z1 : W1.heap.size = w1.heap.size + 1 + 1 := by rw [← hW1]; simp [z0]
  rw [hW1]
  obtain ⟨W2, hW2⟩ : ∃ W2, W1.alloc (.cells #[.int .i64 1, .int .i64 5, .complex .f64 0 0] 27) = W2 := ⟨_, rfl⟩
  rw [hW2]
  have k0 : Kp (fun j => j = b) w1 W2 := by
    rw [← hW2, ← hW1, ← hW0]
    exact ((Kp.setCell (S := fun j => j = b) (Kp.refl _ _) (p := ⟨b, 3, none⟩) (fun _ => rfl) _).alloc _ |>.alloc _).alloc _
  have hs0 : (w1.setCell ⟨b, 3, none⟩ (.slice (some ⟨w1.heap.size + 1, 0, none⟩) 1 1)).heap.size = w1.heap.size := by simp
  have mv : ∀ i, W2.cell? ⟨b, i, none⟩ = (w1.setCell ⟨b, 3, none⟩ (.slice (some ⟨w1.heap.size + 1, 0, none⟩) 1 1)).cell? ⟨b, i, none⟩ := fun i => by
    rw [← hW2, World.cell?_alloc_lt _ _ _ (by show b < _; omega), ← hW1, World.cell?_alloc_lt _ _ _ (by show b < _; omega), ← hW0, World.cell?_alloc_lt _ _ _ (by show b < _; omega)]
  have mo : ∀ i v, i ≠ 3 → w1.cell? ⟨b, i, none⟩ = some v → W2.cell? ⟨b, i, none⟩ = some v := fun i v hi hv => by
    rw [mv, World.cell?_setCell_other _ _ _ _ (by simp; try omega)]
    exact hv
  have m3 : W2.cell? ⟨b, 3, none⟩ = some (.slice (some ⟨w1.heap.size + 1, 0, none⟩) 1 1) := by rw [mv]; simp [go_sem, q3]
  have p := HP.out
  have hll : l < w1.heap.size := World.block_lt_of_cell? _ _ p.l0
  have P2 : PlainW W2 b (some ⟨w1.heap.size + 1, 0, none⟩) 1 1 k l := ⟨mo 0 _ (by decide) p.c0, mo 1 _ (by decide) p.c1, mo 2 _ (by decide) p.c2, m3, mo 4 _ (by decide) p.c4, mo 5 _ (by decide) p.c5, mo 6 _ (by decide) p.c6, mo 7 _ (by decide) p.c7, mo 8 _ (by decide) p.c8, mo 9 _ (by decide) p.c9, mo 10 _ (by decide) p.c10, k0.cellv p.l0 (Ne.symm hbl)⟩
  have pp : W2.cell? ⟨w1.heap.size + 1, 0, none⟩ = some (.int .i64 1) := by
    rw [← hW2, World.cell?_alloc_lt _ _ _ (by show w1.heap.size + 1 < _; omega), ← hW1, ← z0]
    exact (new_cells (Below.refl _ _) 0 _ rfl).1
  have aa : ∀ i v, #[Value.int .i64 1, .int .i64 5, .complex .f64 0 0][i]? = some v → W2.cell? ⟨w1.heap.size + 1 + 1, i, none⟩ = some v := fun i v hv => by
    rw [← hW2, ← z1]
    exact (new_cells (Below.refl _ _) i v hv).1
  have cn := Lib.hid (new_one b (w1.heap.size + 1) (w1.heap.size + 1 + 1) k l W2 P2 pp (aa 0 _ rfl) (aa 1 _ rfl) (aa 2 _ rfl))
  have HLW : Hid (l < W2.heap.size) := Lib.hid (Nat.lt_of_lt_of_le hll k0.size)
  have HB2 : Hid (Below w.heap.size w W2) := Lib.hid (HB1.out.trans (k0.below (HB1.out.size) (fun j hj => by subst hj; exact hbw)))
  clear q3 hf3 hbw hlw hbl hbs HP HB1 hW0 hW1 hW2 z0 z1 k0 hs0 mv mo m3 p hll P2 pp aa
  go_wp2_with fail
  refine cn.out.mono ?_
  rintro e w3 ⟨g, r, rc, rfl, hF, r0, r1, r2, hg, hr, hrg, hb3⟩
  have hgl : g < w3.heap.size := World.block_lt_of_cell? _ _ hF.c14
  have hgw : w.heap.size ≤ g := Nat.le_trans HB2.out.size hg
  have hrl : r < w3.heap.size := World.block_lt_of_cell? _ _ r0
  have hll : l < w3.heap.size := World.block_lt_of_cell? _ _ hF.l0
  have HB3 := Lib.hid (bl_trans HB2.out HB2.out.size hb3)
  have cpu := Lib.hid (f_push g 1 3 0 0 w3 hF.c14 hF.f14)
  have HFF := Lib.hid hF
  have HRR := Lib.hid (And.intro r0 (And.intro r1 r2))
  have HN := Lib.hid (And.intro hrg (And.intro hgl (And.intro hgw (And.intro hrl hll))))
  have hlg : l ≠ g := by have := HLW.out; omega
  have HLG := Lib.hid hlg
  clear hF r0 r1 r2 hg hr hrg hb3 hgl hgw hrl hll hlg cn
  go_wp2_with fail
  refine cpu.out.mono ?_
  rintro e w4 ⟨⟨u, rfl⟩, s, c, hk, hc14, hco, hfr, s0, s1, s2, hsl, hc1, hc2⟩
  obtain ⟨hrg, hgl, hgw, hrl, hll⟩ := HN.out
  have F := HFF.out
  obtain ⟨r0, r1, r2⟩ := HRR.out
  have HB4 : Hid (Below w.heap.size w w4) := Lib.hid (HB3.out.trans (hk.below HB3.out.size (fun j hj => by subst hj; exact hgw)))
  have csl := Lib.hid (f_slot g r rc 1 5 0 0 w4 ((hco 13 (by decide)).trans F.c13) (hk.cellv r0 hrg) (hk.cellv r1 hrg) (hk.cellv r2 hrg))
  have q14 := Lib.hid (And.intro hc14 (And.intro ((hfr 14).trans F.f14) (And.intro s0 (And.intro s1 s2))))
  have hsg : s ≠ g := by omega
  have q7 := Lib.hid (And.intro ((hco 7 (by decide)).trans F.c7) (And.intro ((hco 12 (by decide)).trans F.c12) (hk.cellv F.l0 HLG.out)))
  have hsl4 : s < w4.heap.size := World.block_lt_of_cell? _ _ s0
  have hgl4 : g < w4.heap.size := World.block_lt_of_cell? _ _ hc14
  have hll4 : l < w4.heap.size := World.block_lt_of_cell? _ _ q7.out.2.2
  have HNN := Lib.hid (And.intro hsg (And.intro hsl4 (And.intro hgl4 (And.intro hll4 (And.intro hc1 (And.intro hc2 hgw))))))
  clear hk hc14 hco hfr s0 s1 s2 hsl hc1 hc2 hrg hgl hgw hrl hll F r0 r1 r2 hsg hsl4 hgl4 hll4 cpu HFF HRR HN
  have hfd1 := vn_field 1 5 0 0
  have hfd2 := vn_field 1 3 0 0
  go_wp2_with fail
  refine csl.out.mono ?_
  rintro e w5 ⟨rfl, hb5⟩
  obtain ⟨hsg, hsl4, hgl4, hll4, hc1, hc2, hgw⟩ := HNN.out
  have HB5 := Lib.hid (bl_trans HB4.out HB4.out.size hb5)
  obtain ⟨p14, pf14, s0, s1, s2⟩ := q14.out
  have chi := Lib.hid (f_high g c _ w5 ((hb5.cell (p := ⟨g, 14, none⟩) hgl4).trans p14))
  have cpo := Lib.hid (f_pop g s c 1 3 0 0 w5 ((hb5.cell (p := ⟨g, 14, none⟩) hgl4).trans p14) ((hb5.frozen (p := ⟨g, 14, none⟩) hgl4).trans pf14) hc1 hc2 hsg ((hb5.cell (p := ⟨s, 0, none⟩) hsl4).trans s0) ((hb5.cell (p := ⟨s, 1, none⟩) hsl4).trans s1) ((hb5.cell (p := ⟨s, 2, none⟩) hsl4).trans s2))
  have HGW := Lib.hid hgw
  have Q75 : Hid (w5.cell? ⟨g, 7, none⟩ = some (.slice (some ⟨l, 0, none⟩) 1 1) ∧ w5.cell? ⟨g, 12, none⟩ = some (.int .i64 0) ∧ w5.cell? ⟨l, 0, none⟩ = some (.int .i64 1)) := Lib.hid ⟨(hb5.cell (p := ⟨g, 7, none⟩) hgl4).trans q7.out.1, (hb5.cell (p := ⟨g, 12, none⟩) hgl4).trans q7.out.2.1, (hb5.cell (p := ⟨l, 0, none⟩) hll4).trans q7.out.2.2⟩
  clear hb5 p14 pf14 s0 s1 s2 hsg hsl4 hgl4 hll4 hc1 hc2 hgw csl
  go_wp2_with fail
  refine chi.out.mono ?_
  rintro e w' ⟨rfl, rfl⟩
  go_wp2_with fail
  refine cpo.out.mono ?_
  rintro e w6 ⟨rfl, hk, hco⟩
  have hgw := HGW.out
  have HB6 : Hid (Below w.heap.size w w6) := Lib.hid (HB5.out.trans (hk.below HB5.out.size (fun j hj => by subst hj; exact hgw)))
  obtain ⟨p7, p12, pl⟩ := Q75.out
  have cli := Lib.hid (f_line g l w6 ((hco 7 (by decide)).trans p7) ((hco 12 (by decide)).trans p12) (hk.cellv pl HLG.out))
  clear hk hco p7 p12 pl hgw cpo chi
  go_wp2_with fail
  refine cli.out.mono ?_
  rintro e w7 ⟨rfl, q, rfl⟩
  go_wp2_with fail
  go_ret
  exact ⟨rfl, HB6.out.trans ⟨rfl, rfl, rfl, Nat.le_refl _, fun _ _ => rfl⟩⟩
end Go.Proofs.Ytafcggibhmkgkaa
