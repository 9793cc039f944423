/-
  Pieces of bodies: the chapter's example holds.
-/
import Derived.Test.YthfdmpcnebjkjaaPc7
namespace Go.Proofs.Ythfdmpcnebjkjaa
open Go.RowKit
set_option linter.unusedSimpArgs false
set_option linter.unusedVariables false
def xf : DFunc := ⟨⟨#[102]⟩, false, [], [1], [1], [], [⟨25, 0⟩], [5], [], [], []⟩
theorem sl_one {W : World} {b : Nat} {v : Int} (h : Cells W b [.int .i64 v]) : SlI W W.heap.size (some ⟨b, 0, none⟩) 1 1 [v] :=
  slr_of_cells (f := fun x : Int => [Value.int .i64 x]) (xs := [v]) (fun _ => rfl) h rfl h.lt (by unfold maxLen; omega) (by unfold reachBytes; omega)
theorem sl_nil (W : World) : SlI W W.heap.size none 0 0 [] := SlR.nil_ W _
theorem xf_w {W : World} {g : Nat} (h1 : Cells W g [.int .i64 1]) (h2 : Cells W (g + 1) [.int .i64 1]) (h3 : Cells W (g + 1 + 1) [.int .i64 25, .int .i64 0]) (h4 : Cells W (g + 1 + 1 + 1) [.int .i64 5]) :
    FnW W W.heap.size ⟨#[102]⟩ false none 0 0 (some ⟨g, 0, none⟩) 1 1 (some ⟨g + 1, 0, none⟩) 1 1 none 0 0 (some ⟨g + 1 + 1, 0, none⟩) 1 1 (some ⟨g + 1 + 1 + 1, 0, none⟩) 1 1 none 0 0 none 0 0 none 0 0 xf where
  nm := by decide
  r0 := sl_nil W
  r1 := sl_one h1
  r2 := sl_one h2
  r3 := sl_nil W
  r4 := slr_of_cells (f := cellsI) (xs := [⟨25, 0⟩]) (fun _ => rfl) h3 rfl h3.lt (by unfold maxLen; omega) (by unfold reachBytes; omega)
  r5 := sl_one h4
  r6 := SlR.nil_ W _
  r7 := sl_nil W
  r8 := SlR.nil_ W _
  sm := by omega
theorem xf_code : (codeL xf 2 1 3 1 1)[2]? = some ⟨34, 1⟩ := by
  unfold codeL begC bodyC endC
  simp [xf, instrM, retM]
theorem xf_line : (lineL xf 4 1 1 1)[2]? = some 5 := by
  unfold lineL lnU lineM
  simp [xf]
theorem xf_node : (nodeL xf 1 2 1 3 0 4 1 1 0 1)[0]? = some (firstM xf 1 2 3 0 4 1 1 0 1) ∧ (firstM xf 1 2 3 0 4 1 1 0 1).resume = 5 := by
  refine ⟨rfl, ?_⟩
  unfold firstM wrap64
  decide
theorem xf_own : ownM xf (1 + 1 + 0) = 2 := rfl
def IsXf (w : World) (e : Ending) (w' : World) : Prop := ∃ A0 c0 A1 c1 A2 c2 A3 c3 A4 c4, e = .returned (.agg #[.slice (some A0) 4 c0, .slice (some A1) 4 c1, .slice A2 4 c2, .slice (some A3) 1 c3, .slice A4 2 c4]) ∧
  (∃ b o, A0 = ⟨b, o, none⟩ ∧ b < w'.heap.size ∧ w'.cell? ⟨b, o + 4, none⟩ = some (.int .i64 34) ∧ w'.cell? ⟨b, o + 5, none⟩ = some (.int .i64 1)) ∧
  (∃ b o, A1 = ⟨b, o, none⟩ ∧ b < w'.heap.size ∧ w'.cell? ⟨b, o + 2, none⟩ = some (.int .i64 5)) ∧ (∃ b o, A3 = ⟨b, o, none⟩ ∧ b < w'.heap.size ∧ w'.cell? ⟨b, o + 6, none⟩ = some (.int .i64 5)) ∧ Below w.heap.size w w'
theorem xf_body {w w' : World} {e : Ending} (h : IsBd xf 1 2 1 3 0 4 1 1 0 1 0 w e w') : IsXf w e w' := by
  obtain ⟨A0, c0, A1, c1, A2, c2, A3, c3, A4, c4, rfl, ow0, ow1, ow2, ow3, h4, hb⟩ := h
  have h0 := SlR.of_ownN (sz := 2) (bytes := 16) (f := cellsI) (fun _ => rfl) (by omega) ow0 (by unfold reachBytes; omega)
  have h1 := SlI.own ow1 (by omega)
  have h3 := SlR.of_ownN (sz := 7) (bytes := 56) (f := cellsN) (fun _ => rfl) (by omega) ow3 (by unfold reachBytes; omega)
  obtain ⟨b0, o0, x, rfl, hb0, hx, y0, y1⟩ := slc_at h0 (k := 2) (by omega)
  rw [xf_code] at hx
  injection hx with hx
  subst hx
  obtain ⟨b1, o1, v, rfl, hb1, hv, hc1⟩ := SlR.cell1 (f := Value.int .i64) h1 (i := 2) (by omega)
  rw [xf_line] at hv
  injection hv with hv
  subst hv
  obtain ⟨b3, o3, y, rfl, hb3, hy, _, _, _, _, _, _, z6⟩ := sln_at h3 (k := 0) (by omega)
  rw [xf_node.1] at hy
  injection hy with hy
  rw [← hy, xf_node.2] at z6
  exact ⟨_, c0, _, c1, A2, c2, _, c3, A4, c4, rfl, ⟨b0, o0, rfl, hb0, y0, y1⟩, ⟨b1, o1, rfl, hb1, hc1⟩, ⟨b3, o3, rfl, hb3, by simpa using z6⟩, hb⟩
set_option maxRecDepth 100000 in
set_option maxHeartbeats 16000000 in
theorem splice_lives (w : World) : Calls Try.prog 7 #[] w fun e w' => e = .returned (.bool true) ∧ Below w.heap.size w w' := by
  obtain ⟨g, hg⟩ : ∃ g, w.heap.size = g := ⟨_, rfl⟩
  have HG := Lib.hid hg
  go_enter Try.func7, Try.ntmps7
  go_wp2_with fail
  obtain ⟨w4, hw4⟩ : ∃ X, (((w.alloc (.cells #[.int .i64 1] 56)).alloc (.cells #[.int .i64 1] 56)).alloc (.cells #[.int .i64 25, .int .i64 0] 49)).alloc (.cells #[.int .i64 5] 3) = X := ⟨_, rfl⟩
  have hz4 : w4.heap.size = g + 1 + 1 + 1 + 1 := by rw [← hw4]; simp; omega
  have hc4 : Cells w4 g [.int .i64 1] ∧ Cells w4 (g + 1) [.int .i64 1] ∧ Cells w4 (g + 1 + 1) [.int .i64 25, .int .i64 0] ∧ Cells w4 (g + 1 + 1 + 1) [.int .i64 5] := by
    have a1 := cells_new_at hg [.int .i64 1] 56
    have z1 : (w.alloc (.cells #[.int .i64 1] 56)).heap.size = g + 1 := by simp; omega
    have a2 := cells_new_at z1 [.int .i64 1] 56
    have z2 : ((w.alloc (.cells #[.int .i64 1] 56)).alloc (.cells #[.int .i64 1] 56)).heap.size = g + 1 + 1 := by simp; omega
    have a3 := cells_new_at z2 [.int .i64 25, .int .i64 0] 49
    have z3 : (((w.alloc (.cells #[.int .i64 1] 56)).alloc (.cells #[.int .i64 1] 56)).alloc (.cells #[.int .i64 25, .int .i64 0] 49)).heap.size = g + 1 + 1 + 1 := by simp; omega
    have a4 := cells_new_at z3 [.int .i64 5] 3
    rw [← hw4]
    exact ⟨((a1.on (bl_one _)).on (bl_one _)).on (bl_one _), (a2.on (bl_one _)).on (bl_one _), a3.on (bl_one _), a4⟩
  have hb4 : Below w.heap.size w w4 := by rw [← hw4]; exact two_below.trans (two_below.mono (by simp; omega))
  rw [hw4]
  obtain ⟨w5, hw5⟩ : ∃ X, w4.alloc (.cells #[.string ⟨#[102]⟩, .bool false, .slice none 0 0, .slice (some ⟨g, 0, none⟩) 1 1, .slice (some ⟨g + 1, 0, none⟩) 1 1, .slice none 0 0, .slice (some ⟨g + 1 + 1, 0, none⟩) 1 1, .slice (some ⟨g + 1 + 1 + 1, 0, none⟩) 1 1, .slice none 0 0, .slice none 0 0, .slice none 0 0] 28) = X := ⟨_, rfl⟩
  have hc5 : Cells w5 (g + 1 + 1 + 1 + 1) [.string ⟨#[102]⟩, .bool false, .slice none 0 0, .slice (some ⟨g, 0, none⟩) 1 1, .slice (some ⟨g + 1, 0, none⟩) 1 1, .slice none 0 0, .slice (some ⟨g + 1 + 1, 0, none⟩) 1 1, .slice (some ⟨g + 1 + 1 + 1, 0, none⟩) 1 1, .slice none 0 0, .slice none 0 0, .slice none 0 0] := by
    rw [← hw5]
    exact cells_new_at hz4 [.string ⟨#[102]⟩, .bool false, .slice none 0 0, .slice (some ⟨g, 0, none⟩) 1 1, .slice (some ⟨g + 1, 0, none⟩) 1 1, .slice none 0 0, .slice (some ⟨g + 1 + 1, 0, none⟩) 1 1, .slice (some ⟨g + 1 + 1 + 1, 0, none⟩) 1 1, .slice none 0 0, .slice none 0 0, .slice none 0 0] _
  have hb5 : Below w4.heap.size w4 w5 := by rw [← hw5]; exact bl_one _
  have HFW : Hid (∀ W, Below w5.heap.size w5 W → FnW W W.heap.size ⟨#[102]⟩ false none 0 0 (some ⟨g, 0, none⟩) 1 1 (some ⟨g + 1, 0, none⟩) 1 1 none 0 0 (some ⟨g + 1 + 1, 0, none⟩) 1 1 (some ⟨g + 1 + 1 + 1, 0, none⟩) 1 1 none 0 0 none 0 0 none 0 0 xf) := Lib.hid fun W hW => xf_w ((hc4.1.on hb5).on hW) ((hc4.2.1.on hb5).on hW) ((hc4.2.2.1.on hb5).on hW) ((hc4.2.2.2.on hb5).on hW)
  have EQ : Hid (∀ W, Below w5.heap.size w5 W → Cells W (g + 1 + 1 + 1 + 1) [.string ⟨#[102]⟩, .bool false, .slice none 0 0, .slice (some ⟨g, 0, none⟩) 1 1, .slice (some ⟨g + 1, 0, none⟩) 1 1, .slice none 0 0, .slice (some ⟨g + 1 + 1, 0, none⟩) 1 1, .slice (some ⟨g + 1 + 1 + 1, 0, none⟩) 1 1, .slice none 0 0, .slice none 0 0, .slice none 0 0]) := Lib.hid fun W hW => hc5.on hW
  have HB5 : Hid (Below w.heap.size w w5) := Lib.hid (hb4.trans (hb5.mono hb4.size))
  have cB := Lib.hid ((bd_any 1 ⟨#[102]⟩ false none 0 0 (some ⟨g, 0, none⟩) 1 1 (some ⟨g + 1, 0, none⟩) 1 1 none 0 0 (some ⟨g + 1 + 1, 0, none⟩) 1 1 (some ⟨g + 1 + 1 + 1, 0, none⟩) 1 1 none 0 0 none 0 0 none 0 0 2 1 3 0 4 xf w5 (HFW.out w5 (Below.refl _ _))).mono (fun e w' h => xf_body h))
  rw [hw5]
  clear hw4 hz4 hc4 hb4 hw5 hc5 hb5 hg
  refine cB.out.mono ?_
  rintro e w6 ⟨A0, c0, A1, c1, A2, c2, A3, c3, A4, c4, rfl, ⟨b0, o0, rfl, hl0, x0, x0'⟩, ⟨b1, o1, rfl, hl1, x1⟩, ⟨b3, o3, rfl, hl3, x3⟩, hb6⟩
  have HB6 := Lib.hid hb6
  have HX : Hid (∀ W, Below w6.heap.size w6 W → W.cell? ⟨b0, o0 + 4, none⟩ = some (.int .i64 34) ∧ W.cell? ⟨b0, o0 + 5, none⟩ = some (.int .i64 1) ∧ W.cell? ⟨b1, o1 + 2, none⟩ = some (.int .i64 5) ∧ W.cell? ⟨b3, o3 + 6, none⟩ = some (.int .i64 5)) := Lib.hid fun W hW => ⟨(hW.cell (p := ⟨b0, o0 + 4, none⟩) hl0).trans x0, (hW.cell (p := ⟨b0, o0 + 5, none⟩) hl0).trans x0', (hW.cell (p := ⟨b1, o1 + 2, none⟩) hl1).trans x1, (hW.cell (p := ⟨b3, o3 + 6, none⟩) hl3).trans x3⟩
  clear hb6 cB x0 x0' x1 x3 hl0 hl1 hl3
  obtain ⟨w7, hw7⟩ : ∃ X, w6.alloc (.cells #[.slice (some ⟨b0, o0, none⟩) 4 c0, .slice (some ⟨b1, o1, none⟩) 4 c1, .slice A2 4 c2, .slice (some ⟨b3, o3, none⟩) 1 c3, .slice A4 2 c4] 36) = X := ⟨_, rfl⟩
  obtain ⟨pb, hpb⟩ : ∃ X, w6.heap.size = X := ⟨_, rfl⟩
  have hb7 : Below w6.heap.size w6 w7 := by rw [← hw7]; exact bl_one _
  have hc7 : Cells w7 pb [.slice (some ⟨b0, o0, none⟩) 4 c0, .slice (some ⟨b1, o1, none⟩) 4 c1, .slice A2 4 c2, .slice (some ⟨b3, o3, none⟩) 1 c3, .slice A4 2 c4] := by rw [← hw7]; exact cells_new_at hpb [.slice (some ⟨b0, o0, none⟩) 4 c0, .slice (some ⟨b1, o1, none⟩) 4 c1, .slice A2 4 c2, .slice (some ⟨b3, o3, none⟩) 1 c3, .slice A4 2 c4] _
  have HB7 : Hid (Below w5.heap.size w5 w7) := Lib.hid (HB6.out.trans (hb7.mono HB6.out.size))
  have HX7 : Hid (∀ W, Below w7.heap.size w7 W → Below w6.heap.size w6 W) := Lib.hid fun W hW => hb7.trans (hW.mono hb7.size)
  have HC7 := Lib.hid hc7
  have cLg : Hid (∀ W, Calls Try.prog 14 #[.agg #[.string ⟨#[102]⟩, .bool false, .slice none 0 0, .slice (some ⟨g, 0, none⟩) 1 1, .slice (some ⟨g + 1, 0, none⟩) 1 1, .slice none 0 0, .slice (some ⟨g + 1 + 1, 0, none⟩) 1 1, .slice (some ⟨g + 1 + 1 + 1, 0, none⟩) 1 1, .slice none 0 0, .slice none 0 0, .slice none 0 0]] W fun e w' => e = .returned (.int .i64 4) ∧ Below W.heap.size W w') := Lib.hid (fun W => long_any ⟨#[102]⟩ false none 0 0 (some ⟨g, 0, none⟩) 1 1 (some ⟨g + 1, 0, none⟩) 1 1 none 0 0 (some ⟨g + 1 + 1, 0, none⟩) 1 1 (some ⟨g + 1 + 1 + 1, 0, none⟩) 1 1 none 0 0 none 0 0 none 0 0 W (by omega) (by omega) (by omega))
  have hc5 := EQ.out w7 HB7.out
  have e0 := hc5.at_ 0 _ rfl
  have e1 := hc5.at_ 1 _ rfl
  have e2 := hc5.at_ 2 _ rfl
  have e3 := hc5.at_ 3 _ rfl
  have e4 := hc5.at_ 4 _ rfl
  have e5 := hc5.at_ 5 _ rfl
  have e6 := hc5.at_ 6 _ rfl
  have e7 := hc5.at_ 7 _ rfl
  have e8 := hc5.at_ 8 _ rfl
  have e9 := hc5.at_ 9 _ rfl
  have e10 := hc5.at_ 10 _ rfl
  clear hc5 hb7 hc7
  go_wp2_with fail
  refine (cLg.out w7).mono ?_
  rintro e w8 ⟨rfl, hb8⟩
  clear e0 e1 e2 e3 e4 e5 e6 e7 e8 e9 e10
  have HB8 : Hid (Below w5.heap.size w5 w8) := Lib.hid (HB7.out.trans (hb8.mono HB7.out.size))
  have cOw : Hid (Calls Try.prog 16 #[.agg #[.string ⟨#[102]⟩, .bool false, .slice none 0 0, .slice (some ⟨g, 0, none⟩) 1 1, .slice (some ⟨g + 1, 0, none⟩) 1 1, .slice none 0 0, .slice (some ⟨g + 1 + 1, 0, none⟩) 1 1, .slice (some ⟨g + 1 + 1 + 1, 0, none⟩) 1 1, .slice none 0 0, .slice none 0 0, .slice none 0 0]] w8 fun e w' => e = .returned (.int .i64 2) ∧ Below w8.heap.size w8 w') := Lib.hid (own_any ⟨#[102]⟩ false none 0 0 (some ⟨g, 0, none⟩) 1 1 (some ⟨g + 1, 0, none⟩) 1 1 none 0 0 (some ⟨g + 1 + 1, 0, none⟩) 1 1 (some ⟨g + 1 + 1 + 1, 0, none⟩) 1 1 none 0 0 none 0 0 none 0 0 xf w8 (HFW.out w8 HB8.out))
  obtain ⟨x0, x0', x1, x3⟩ := HX.out w8 (HX7.out w8 hb8)
  have hc8 := HC7.out.on hb8
  have y0 := hc8.at_ 0 _ rfl
  have y1 := hc8.at_ 1 _ rfl
  have y3 := hc8.at_ 3 _ rfl
  have hc5 := EQ.out w8 HB8.out
  have e0 := hc5.at_ 0 _ rfl
  have e1 := hc5.at_ 1 _ rfl
  have e2 := hc5.at_ 2 _ rfl
  have e3 := hc5.at_ 3 _ rfl
  have e4 := hc5.at_ 4 _ rfl
  have e5 := hc5.at_ 5 _ rfl
  have e6 := hc5.at_ 6 _ rfl
  have e7 := hc5.at_ 7 _ rfl
  have e8 := hc5.at_ 8 _ rfl
  have e9 := hc5.at_ 9 _ rfl
  have e10 := hc5.at_ 10 _ rfl
  clear hc5 hc8 hb8 cLg hw7 hpb
  go_wp2_with fail
  refine cOw.out.mono ?_
  rintro e w9 ⟨rfl, hb9⟩
  have HB9 : Hid (Below w.heap.size w w9) := Lib.hid (HB5.out.trans ((HB8.out.trans (hb9.mono HB8.out.size)).mono HB5.out.size))
  clear hb9 cOw e0 e1 e2 e3 e4 e5 e6 e7 e8 e9 e10 x0 x0' x1 x3 y0 y1 y3
  go_wp2_with fail
  go_ret
  exact ⟨rfl, HB9.out⟩
end Go.Proofs.Ythfdmpcnebjkjaa
