import Derived.Test.YtobmjnmcjddhcaaGreatRg18
import Derived.Test.YtobmjnmcjddhcaaGreatRg22
set_option linter.unusedSimpArgs false
set_option linter.unusedVariables false
namespace Go.Proofs.YtobmjnmcjddhcaaGreat
section
set_option maxRecDepth 100000
set_option maxHeartbeats 8000000
open Go.RowKit
structure NZ (w : World) (g : Nat) (s : ByteArray) (b : Bool) (A0 : Option Addr) (n0 c0 : Nat) (A1 : Option Addr) (n1 c1 : Nat) (A2 : Option Addr) (n2 c2 : Nat) (A3 : Option Addr) (n3 c3 : Nat) (A4 : Option Addr) (n4 c4 : Nat) (A5 : Option Addr) (n5 c5 : Nat) (A6 : Option Addr) (n6 c6 : Nat) (A7 : Option Addr) (n7 c7 : Nat) (A8 : Option Addr) (n8 c8 : Nat) (f : Nat) (A13 : Option Addr) (m13 c13 : Nat) (fr : Option Addr) (sl : List DV) : Prop where
 fn : FnC w g s b A0 n0 c0 A1 n1 c1 A2 n2 c2 A3 n3 c3 A4 n4 c4 A5 n5 c5 A6 n6 c6 A7 n7 c7 A8 n8 c8
 e11 : w.cell? ⟨g, 11, none⟩ = some (.int .i64 (f : Int))
 e12 : w.cell? ⟨g, 12, none⟩ = some (.int .i64 0)
 e13 : w.cell? ⟨g, 13, none⟩ = some (.slice A13 m13 c13)
 e14 : w.cell? ⟨g, 14, none⟩ = some (.slice none 0 0)
 e15 : w.cell? ⟨g, 15, none⟩ = some (.slice none 0 0)
 e16 : w.cell? ⟨g, 16, none⟩ = some (.pointer fr)
 fz : ∀ i, w.frozen? ⟨g, i, none⟩ = false
 r13 : RowV w (g + 1) A13 m13 c13 sl
def IsNewZ (fr : Option Addr) (s : ByteArray) (b : Bool) (A0 : Option Addr) (n0 c0 : Nat) (A1 : Option Addr) (n1 c1 : Nat) (A2 : Option Addr) (n2 c2 : Nat) (A3 : Option Addr) (n3 c3 : Nat) (A4 : Option Addr) (n4 c4 : Nat) (A5 : Option Addr) (n5 c5 : Nat) (A6 : Option Addr) (n6 c6 : Nat) (A7 : Option Addr) (n7 c7 : Nat) (A8 : Option Addr) (n8 c8 : Nat) (f : Nat) (sl : List DV) (w : World) (e : Ending) (w' : World) : Prop := ∃ g A13 m13 c13, e = .returned (.pointer (some ⟨g, 0, none⟩)) ∧ w.heap.size ≤ g ∧ NZ w' g s b A0 n0 c0 A1 n1 c1 A2 n2 c2 A3 n3 c3 A4 n4 c4 A5 n5 c5 A6 n6 c6 A7 n7 c7 A8 n8 c8 f A13 m13 c13 fr sl ∧ Below w.heap.size w w'
theorem nz_new {w : World} {g : Nat} {s : ByteArray} {b : Bool} {A0 : Option Addr} {n0 c0 : Nat} {A1 : Option Addr} {n1 c1 : Nat} {A2 : Option Addr} {n2 c2 : Nat} {A3 : Option Addr} {n3 c3 : Nat} {A4 : Option Addr} {n4 c4 : Nat} {A5 : Option Addr} {n5 c5 : Nat} {A6 : Option Addr} {n6 c6 : Nat} {A7 : Option Addr} {n7 c7 : Nat} {A8 : Option Addr} {n8 c8 : Nat} {f : Nat} {A13 : Option Addr} {m13 c13 : Nat} {fr : Option Addr} {sl : List DV} (hc : ∀ (i : Nat) (v : Value), #[.string s, .bool b, .slice A0 n0 c0, .slice A1 n1 c1, .slice A2 n2 c2, .slice A3 n3 c3, .slice A4 n4 c4, .slice A5 n5 c5, .slice A6 n6 c6, .slice A7 n7 c7, .slice A8 n8 c8, .int .i64 (f : Int), .int .i64 0, .slice none 0 0, .slice none 0 0, .slice none 0 0, .pointer fr][i]? = some v → i ≠ 13 → w.cell? ⟨g, i, none⟩ = some v) (h13 : w.cell? ⟨g, 13, none⟩ = some (.slice A13 m13 c13)) (hf : ∀ i, w.frozen? ⟨g, i, none⟩ = false) (hr : RowV w (g + 1) A13 m13 c13 sl) : NZ w g s b A0 n0 c0 A1 n1 c1 A2 n2 c2 A3 n3 c3 A4 n4 c4 A5 n5 c5 A6 n6 c6 A7 n7 c7 A8 n8 c8 f A13 m13 c13 fr sl :=
 ⟨⟨hc 0 _ rfl (by decide), hc 1 _ rfl (by decide), hc 2 _ rfl (by decide), hc 3 _ rfl (by decide), hc 4 _ rfl (by decide), hc 5 _ rfl (by decide), hc 6 _ rfl (by decide), hc 7 _ rfl (by decide), hc 8 _ rfl (by decide), hc 9 _ rfl (by decide), hc 10 _ rfl (by decide)⟩, hc 11 _ rfl (by decide), hc 12 _ rfl (by decide), h13, hc 14 _ rfl (by decide), hc 15 _ rfl (by decide), hc 16 _ rfl (by decide), hf, hr⟩
theorem fromz_any (g : Nat) (fr : Option Addr) (w : World) (h : w.cell? ⟨g, 16, none⟩ = some (.pointer fr)) :
  Calls Tryz.prog 22 #[.pointer (some ⟨g, 0, none⟩)] w fun e w' => e = .returned (.pointer fr) ∧ Below w.heap.size w w' := by
 have hb := Below.refl w.heap.size w
 go_in
 go_wp2_with fail
 go_ret
 exact ⟨rfl, hb⟩
theorem newz_any (s : ByteArray) (b : Bool) (A0 : Option Addr) (n0 c0 : Nat) (A1 : Option Addr) (n1 c1 : Nat) (A2 : Option Addr) (n2 c2 : Nat) (A3 : Option Addr) (n3 c3 : Nat) (A4 : Option Addr) (n4 c4 : Nat) (A5 : Option Addr) (n5 c5 : Nat) (A6 : Option Addr) (n6 c6 : Nat) (A7 : Option Addr) (n7 c7 : Nat) (A8 : Option Addr) (n8 c8 : Nat) (x : DFunc) (bk off fn fc f : Nat) (B : Option Addr) (m mc : Nat) (args : List DV) (w : World) (hbk : bk < w.heap.size) (hcf : ∀ (j : Nat) (u : Value), [.string s, .bool b, .slice A0 n0 c0, .slice A1 n1 c1, .slice A2 n2 c2, .slice A3 n3 c3, .slice A4 n4 c4, .slice A5 n5 c5, .slice A6 n6 c6, .slice A7 n7 c7, .slice A8 n8 c8][j]? = some u → w.cell? ⟨bk, off + f * 11 + j, none⟩ = some u) (h : FnS w w.heap.size A1 n1 c1 A2 n2 c2 A3 n3 c3 x) (hf : f < fn) (hfn : fn ≤ 50) (hs : SrcV w B m args) (hm : m ≤ 300) (fr : Option Addr) :
  Calls Tryz.prog 13 #[.agg #[.slice (some ⟨bk, off, none⟩) fn fc], .int .i64 (f : Int), .slice B m mc, .pointer fr] w (IsNewZ fr s b A0 n0 c0 A1 n1 c1 A2 n2 c2 A3 n3 c3 A4 n4 c4 A5 n5 c5 A6 n6 c6 A7 n7 c7 A8 n8 c8 f (slM (x.params ++ x.results ++ x.locals) n1 args) w) := by
 obtain ⟨w1, hw1⟩ : ∃ X, w.alloc (.cells #[.slice (some ⟨bk, off, none⟩) fn fc] 24) = X := ⟨_, rfl⟩
 obtain ⟨z, hz⟩ : ∃ z, w.heap.size = z := ⟨_, rfl⟩
 obtain ⟨g, hg⟩ : ∃ g, w1.heap.size = g := ⟨_, rfl⟩
 have hb1 : Below w.heap.size w w1 := by rw [← hw1]; exact bl_one _
 obtain rfl : g = z + 1 := by rw [← hg, ← hw1, ← hz]; simp
 have p0 : w1.cell? ⟨z, 0, none⟩ = some (.slice (some ⟨bk, off, none⟩) fn fc) := by rw [← hz, ← hw1]; exact (new_cells (Below.refl _ _) 0 _ rfl).1
 have Y : ∀ (j : Nat) (u : Value), [.string s, .bool b, .slice A0 n0 c0, .slice A1 n1 c1, .slice A2 n2 c2, .slice A3 n3 c3, .slice A4 n4 c4, .slice A5 n5 c5, .slice A6 n6 c6, .slice A7 n7 c7, .slice A8 n8 c8][j]? = some u → w1.cell? ⟨bk, off + f * 11 + j, none⟩ = some u := fun j u hj => (hb1.cell (p := ⟨bk, off + f * 11 + j, none⟩) hbk).trans (hcf j u hj)
 have y0 := Y 0 _ rfl
 have y1 := Y 1 _ rfl
 have y2 := Y 2 _ rfl
 have y3 := Y 3 _ rfl
 have y4 := Y 4 _ rfl
 have y5 := Y 5 _ rfl
 have y6 := Y 6 _ rfl
 have y7 := Y 7 _ rfl
 have y8 := Y 8 _ rfl
 have y9 := Y 9 _ rfl
 have y10 := Y 10 _ rfl
 simp only [Nat.add_zero] at y0
 have hr1 := h.r1.1
 have hr2 := h.r2.1
 have hr3 := h.r3.1
 have hsm := h.sm
 have cS : Hid (∀ W, Below w1.heap.size w1 W → Calls Tryz.prog 41 #[.agg #[.string s, .bool b, .slice A0 n0 c0, .slice A1 n1 c1, .slice A2 n2 c2, .slice A3 n3 c3, .slice A4 n4 c4, .slice A5 n5 c5, .slice A6 n6 c6, .slice A7 n7 c7, .slice A8 n8 c8]] W (IsTRow (n1 + n2 + n3) (slotsM x) W)) := Hd fun W hW => pslots_any s b A0 n0 c0 A1 n1 c1 A2 n2 c2 A3 n3 c3 A4 n4 c4 A5 n5 c5 A6 n6 c6 A7 n7 c7 A8 n8 c8 x W ((h.keep (hb1.trans (hW.mono hb1.size))).more (hb1.trans (hW.mono hb1.size)).size)
 obtain ⟨ts, hts⟩ : ∃ ts, x.params ++ x.results ++ x.locals = ts := ⟨_, rfl⟩
 have HTL : Hid (ts.length = n1 + n2 + n3) := Hd (by rw [← hts, List.length_append, List.length_append]; omega)
 have HTT : Hid (∀ (W : World) (base : Nat) (A : Option Addr) (c : Nat), W.ownsRow base 40 1 (.slice A (n1 + n2 + n3) c) (n1 + n2 + n3) (slotsM x) → SlI W W.heap.size A (n1 + n2 + n3) c ts) := Hd fun W base A c ho => by
  have := sli_types ho (by omega)
  rwa [hts] at this
 rw [hts]
 have HS : Hid (∀ W, Below w1.heap.size w1 W → SrcV W B m args) := Hd fun W hW => hs.on (hb1.trans (hW.mono hb1.size))
 have HB1 := Hd hb1
 have t0 : decide ((f : Int) < 0) = false := dcF (by omega)
 have t1 : decide ((f : Int) ≥ (fn : Int)) = false := dcF (by omega)
 have t1b : decide (fn ≤ f) = false := dcF (by omega)
 have hf0 : (0 : Int) ≤ (f : Int) := by omega
 have hf1 : (f : Int) < (fn : Int) := by omega
 have HN : Hid (n1 + n2 + n3 ≤ 300) := Hd (by omega)
 clear hcf h hs hb1 Y hr1 hr2 hr3 hsm hts hbk
 go_in
 go_wp2_with fail
 refine (cS.out _ (bl_one _)).mono ?_
 rintro e w3 ⟨D2, d2, rfl, hown, hb⟩
 have N := fun i v h => new_cells (w := w1) hb i v h
 rw [hg] at N
 have HT := Hd (HTT.out w3 _ D2 d2 hown)
 have cR := Hd (row_any D2 (n1 + n2 + n3) d2 w3.heap.size ts w3 HT.out (Nat.le_refl _) (by have := HN.out; omega))
 have HB3 : Hid (Below w1.heap.size w1 w3) := Hd ((bl_one _).trans (hb.mono (bl_one _).size))
 have hs3 : z + 1 + 1 ≤ w3.heap.size := by have := hb.size; simp at this; omega
 have HSZ := Hd hs3
 have HNN : Hid (∀ (i : Nat) (v : Value), #[.string s, .bool b, .slice A0 n0 c0, .slice A1 n1 c1, .slice A2 n2 c2, .slice A3 n3 c3, .slice A4 n4 c4, .slice A5 n5 c5, .slice A6 n6 c6, .slice A7 n7 c7, .slice A8 n8 c8, .int .i64 (f : Int), .int .i64 0, .slice none 0 0, .slice none 0 0, .slice none 0 0, .pointer fr][i]? = some v → w3.cell? ⟨z + 1, i, none⟩ = some v ∧ w3.frozen? ⟨z + 1, i, none⟩ = false) := Hd N
 have HFZ : Hid (∀ i, w3.frozen? ⟨z + 1, i, none⟩ = false) := Hd fun i => by
  rw [hb.frozen (p := ⟨z + 1, i, none⟩) (by simp; omega), ← hg]
  simp
 clear hb hown hs3 N y0 y1 y2 y3 y4 y5 y6 y7 y8 y9 y10 p0 cS HTT
 go_wp2_with fail
 refine cR.out.mono ?_
 rintro e w4 ⟨D3, d3, rfl, hown4, hb4⟩
 rw [zf_rows] at hown4
 have hr4 : RowV w4 (z + 1 + 1) D3 (n1 + n2 + n3) d3 (ts.map zD) := RowF.ofOwn (own_less hown4 HSZ.out)
 have hg4 : ∀ i, w4.cell? ⟨z + 1, i, none⟩ = w3.cell? ⟨z + 1, i, none⟩ := fun i => hb4.cell (p := ⟨z + 1, i, none⟩) (by have := HSZ.out; show z + 1 < _; omega)
 have hf4 : ∀ i, w4.frozen? ⟨z + 1, i, none⟩ = false := fun i => (hb4.frozen (p := ⟨z + 1, i, none⟩) (by have := HSZ.out; show z + 1 < _; omega)).trans (HFZ.out i)
 have n13 := (hg4 13).trans (HNN.out 13 _ rfl).1
 have nf13 := hf4 13
 have n3' := (hg4 3).trans (HNN.out 3 _ rfl).1
 obtain ⟨W, hW⟩ : ∃ W, w4.setCell ⟨z + 1, 13, none⟩ (.slice D3 (n1 + n2 + n3) d3) = W := ⟨_, rfl⟩
 have hkW : Kp (fun j => j = z + 1) w4 W := by rw [← hW]; exact Kp.setCell (S := fun j => j = z + 1) (Kp.refl _ _) (p := ⟨z + 1, 13, none⟩) (fun _ => rfl) _
 have hrW : RowV W (z + 1 + 1) D3 (n1 + n2 + n3) d3 (ts.map zD) := RowF.kp hr4 hkW fun r hr e => by have := (row_ge hr4 hr).1; omega
 have hW13 : W.cell? ⟨z + 1, 13, none⟩ = some (.slice D3 (n1 + n2 + n3) d3) := by rw [← hW]; simp [go_sem, n13]
 have hWo : ∀ i, i ≠ 13 → W.cell? ⟨z + 1, i, none⟩ = w3.cell? ⟨z + 1, i, none⟩ := fun i hi => by
  rw [← hW, World.cell?_setCell_other _ _ _ _ (by simp; try omega)]
  exact hg4 i
 have hWf : ∀ i, W.frozen? ⟨z + 1, i, none⟩ = false := fun i => by rw [← hW, World.frozen?_setCell]; exact hf4 i
 have hW3 : W.cell? ⟨z + 1, 3, none⟩ = some (.slice A1 n1 c1) := (hWo 3 (by decide)).trans (HNN.out 3 _ rfl).1
 have hBW : Below w1.heap.size w1 W := by
  have h1 : Below w1.heap.size w1 w4 := HB3.out.trans (hb4.mono HB3.out.size)
  rw [← hW]
  exact h1.setCell (p := ⟨z + 1, 13, none⟩) (by rw [hg]; exact Nat.le_refl _) _
 have hsW : SrcV W B m args := HS.out W hBW
 have HWO : Hid (∀ (i : Nat) (v : Value), #[.string s, .bool b, .slice A0 n0 c0, .slice A1 n1 c1, .slice A2 n2 c2, .slice A3 n3 c3, .slice A4 n4 c4, .slice A5 n5 c5, .slice A6 n6 c6, .slice A7 n7 c7, .slice A8 n8 c8, .int .i64 (f : Int), .int .i64 0, .slice none 0 0, .slice none 0 0, .slice none 0 0, .pointer fr][i]? = some v → i ≠ 13 → W.cell? ⟨z + 1, i, none⟩ = some v) := Hd fun i v hv hi => (hWo i hi).trans (HNN.out i v hv).1
 have hbz : ∀ X, Below w1.heap.size w1 X → Below w.heap.size w X := fun X hX => HB1.out.trans (hX.mono HB1.out.size)
 rcases hrW.form with ⟨rfl, hN0, hc0⟩ | ⟨r, rfl, hgr, hrs⟩
 ·obtain rfl : n1 = 0 := by omega
  obtain rfl : n2 = 0 := by omega
  obtain rfl : n3 = 0 := by omega
  subst hc0
  have ht0 : ts = [] := List.eq_nil_of_length_eq_zero (by rw [HTL.out])
  subst ht0
  have hcp := run_copy_none W.drew 0 B m mc 3
  have HFIN : Hid (IsNewZ fr s b A0 n0 c0 A1 0 c1 A2 0 c2 A3 0 c3 A4 n4 c4 A5 n5 c5 A6 n6 c6 A7 n7 c7 A8 n8 c8 f (slM [] 0 args) w (.returned (.pointer (some ⟨z + 1, 0, none⟩))) W.drew) := Hd ⟨z + 1, none, 0, 0, rfl, by rw [hz]; omega, nz_new HWO.out hW13 hWf (show RowV W.drew (z + 1 + 1) none 0 0 (slM [] 0 args) from by rw [show slM [] 0 args = [] from by simp [slM]]; exact (RowF.kp hrW (Kp.refl (fun _ => False) W).drew fun _ _ h => h)), (hbz _ hBW).drew⟩
  have HE := Hd hW
  clear hr4 hg4 hf4 hkW hrW hWo hBW hsW hbz hW hown4 hb4 cR
  go_wp2_with fail
  rw [HE.out]
  go_region
  all_goals go_wp2_with fail
  all_goals go_ret
  all_goals exact HFIN.out
 ·have hcp := run_copy_vals W.drew r n1 d3 B m mc 3 args ⟨hsW.len, hsW.nil_, hsW.src⟩ (fun j hj => by
   obtain ⟨_, _, hc, _⟩ := RowF.cells hrW
   have hl : j < (rowVl (ts.map zD)).length := by rw [hrW.1]; omega
   have := hc j _ (List.getElem?_eq_getElem hl)
   show (W.cell? _).isSome = true
   rw [this]; rfl) (fun j => (RowF.cells hrW).2.2.2 j)
  have hlen : (args.take n1).length ≤ n1 := by rw [List.length_take]; omega
  have hcopy := RowV.copy (args.take n1) (ts.map zD) 0 W.drew (RowF.kp hrW (Kp.refl (fun _ => False) W).drew fun _ _ h => h) (by omega)
  rw [Nat.zero_mul, Nat.zero_add, List.take_zero, List.nil_append] at hcopy
  have hk9 : Kp (fun j => j = r) W (W.drew.setCells r 0 (rowVl (args.take n1))) := Kp.setCells (S := fun j => j = r) ((Kp.refl _ W).drew) (fun _ => rfl) _ _
  have hgne : ¬ z + 1 = r := by omega
  have hgW : z + 1 < W.heap.size := World.block_lt_of_cell? _ _ hW13
  have HFIN : Hid (IsNewZ fr s b A0 n0 c0 A1 n1 c1 A2 n2 c2 A3 n3 c3 A4 n4 c4 A5 n5 c5 A6 n6 c6 A7 n7 c7 A8 n8 c8 f (slM ts n1 args) w (.returned (.pointer (some ⟨z + 1, 0, none⟩))) (W.drew.setCells r 0 (rowVl (args.take n1)))) := Hd ⟨z + 1, some ⟨r, 0, none⟩, _, _, rfl, by rw [hz]; omega, nz_new (fun i v hv hi => hk9.cellv (HWO.out i v hv hi) hgne) (hk9.cellv hW13 hgne) (fun i => (hk9.frozen hgW hgne).trans (hWf i)) hcopy, (hbz _ hBW).trans (hk9.below (hbz _ hBW).size fun j hj => by subst hj; rw [hz]; omega)⟩
  have HE := Hd hW
  have i0 : (n1 : Int) ≤ (d3 : Int) := by have := hrW.2.1; omega
  have i1 : (0 : Int) ≤ (n1 : Int) := by omega
  clear hr4 hg4 hf4 hkW hrW hWo hBW hsW hbz hW hown4 hb4 cR hcopy hk9
  generalize W.drew.setCells r 0 (rowVl (args.take n1)) = W9 at *
  go_wp2_with fail
  rw [HE.out]
  go_region
  all_goals go_wp2_with fail
  all_goals go_ret
  all_goals exact HFIN.out
end
section
open Go.RowKit
abbrev Tag := Nat × Nat
def TT (L : Nat) (t : Tag) : Prop := (t.1 = 0 ∧ (t.2 ≠ 0 ∧ t.2 ≤ 3)) ∨ L ≤ t.1 ∨ (t.1 + 1 = L ∧ (t.2 = 1 ∨ t.2 = 4))
theorem TT.no {L : Nat} (hL : 1 ≤ L) : ¬ TT L (0, 0) := fun h => by
 rcases h with ⟨_, h⟩ | h | ⟨h, h2⟩
 ·exact h.1 rfl
 ·simp at h; omega
 ·simp at h2
theorem TT.up {L : Nat} {t : Tag} (h : TT (L + 1) t) : TT L t := by
 rcases h with h | h | ⟨h, _⟩
 ·exact .inl h
 ·exact .inr (.inl (by omega))
 ·exact .inr (.inl (by omega))
theorem TT.own {L k : Nat} : TT L (L, k) := .inr (.inl (Nat.le_refl _))
theorem TT.vm {L k : Nat} (h : k ≠ 0 ∧ k ≤ 3) : TT L (0, k) := .inl ⟨rfl, h⟩
def TF (L : Nat) (t : Tag) : Prop := t.1 = L ∧ t.2 ≠ 4
theorem TF.no {L : Nat} (hL : 1 ≤ L) : ¬ TF L (0, 0) := fun h => by have : 0 = L := h.1; omega
structure Tr (T : Tag → Prop) (τ : Nat → Tag) (w : World) (τ' : Nat → Tag) (w' : World) : Prop where
 kp : Kp (fun j => T (τ j)) w w'
 eq : ∀ j, j < w.heap.size → τ' j = τ j
 z : ∀ j, w'.heap.size ≤ j → τ' j = (0, 0)
variable {T : Tag → Prop} {τ τ' τ1 τ2 : Nat → Tag} {w w' w1 w2 : World}
theorem Tr.refl (hz : ∀ j, w.heap.size ≤ j → τ j = (0, 0)) : Tr T τ w τ w := ⟨Kp.refl _ _, fun _ _ => rfl, hz⟩
theorem Tr.trans (h : Tr T τ w τ1 w1) (k : Tr T τ1 w1 τ2 w2) : Tr T τ w τ2 w2 :=
 ⟨h.kp.trans' k.kp fun j hj hs => hs.elim id fun hs => by rwa [h.eq j hj] at hs, fun j hj => (k.eq j (Nat.lt_of_lt_of_le hj h.kp.size)).trans (h.eq j hj), k.z⟩
theorem Tr.mono {U : Tag → Prop} (h : Tr T τ w τ' w') (hu : ∀ t, T t → U t) : Tr U τ w τ' w' := ⟨h.kp.mono fun j _ => hu _, h.eq, h.z⟩
theorem Tr.up {L : Nat} (h : Tr (TT (L + 1)) τ w τ' w') : Tr (TT L) τ w τ' w' := h.mono fun _ => TT.up
theorem Tr.below (hz : ∀ j, w.heap.size ≤ j → τ j = (0, 0)) (hb : Below w.heap.size w w') : Tr T τ w τ w' :=
 ⟨(Kp.refl _ _).ofBelow hb, fun _ _ => rfl, fun j hj => hz j (Nat.le_trans hb.size hj)⟩
theorem Tr.cellv (h : Tr T τ w τ' w') {p : Addr} {v : Value} (hc : w.cell? p = some v) (ht : ¬ T (τ p.block)) : w'.cell? p = some v := h.kp.cellv hc ht
abbrev Im (τ : Nat → Tag) (w : World) (A : Option Addr) (n sz : Nat) (cs : List Value) : Prop := Rdv (fun j => τ j ≠ (0, 0)) w A n sz cs
theorem Im.tr {A : Option Addr} {n sz : Nat} {cs : List Value} (h : Im τ w A n sz cs) (k : Tr T τ w τ' w') (hT : ¬ T (0, 0)) : Im τ' w' A n sz cs := by
 have h1 := h.kp k.kp fun j _ hS e => by rw [e] at hS; exact hT hS
 exact ⟨h1.src, fun ad ha => by
  obtain ⟨b, off, e, hb, hf⟩ := h.at_ ad ha
  exact ⟨b, off, e, Nat.lt_of_lt_of_le hb k.kp.size, by rw [k.eq b hb]; exact hf⟩⟩
structure RK where
 wI : World
 fs : List DFunc
 m : Nat
 FA : Option Addr
 fn : Nat
 fc : Nat
 AA : Option Addr
 an : Nat
 ac : Nat
 DA : Option Addr
 dn : Nat
 dc : Nat
 fuel : Nat
 ags : List Int
 ds : List Int
structure Env (K : RK) (τ : Nat → Tag) (w : World) : Prop where
 b0 : Below K.wI.heap.size K.wI w
 t0 : ∀ j, j < K.wI.heap.size → τ j = (0, 0)
 z : ∀ j, w.heap.size ≤ j → τ j = (0, 0)
theorem Env.tr {K : RK} (h : Env K τ w) (k : Tr T τ w τ' w') (hT : ¬ T (0, 0)) : Env K τ' w' :=
 ⟨h.b0.trans (k.kp.below h.b0.size |> fun f => f fun j hj => by
   rcases Nat.lt_or_ge j K.wI.heap.size with hl | hl
   ·rw [h.t0 j hl] at hj; exact absurd hj hT
   ·exact hl), fun j hj => (k.eq j (Nat.lt_of_lt_of_le hj h.b0.size)).trans (h.t0 j hj), k.z⟩
structure RawF where
 V : FR
 A13 : Option Addr
 m13 : Nat
 c13 : Nat
 A14 : Option Addr
 n14 : Nat
 c14 : Nat
 A15 : Option Addr
 n15 : Nat
 c15 : Nat
 sl : List DV
 st : List DV
 cs : List CW
abbrev FnCV (w : World) (g : Nat) (V : FR) : Prop := FnC w g V.s V.b V.A0 V.n0 V.c0 V.A1 V.n1 V.c1 V.A2 V.n2 V.c2 V.A3 V.n3 V.c3 V.A4 V.n4 V.c4 V.A5 V.n5 V.c5 V.A6 V.n6 V.c6 V.A7 V.n7 V.c7 V.A8 V.n8 V.c8
structure FZr (K : RK) (τ : Nat → Tag) (L : Nat) (w : World) (g : Nat) (fr : Option Addr) (x : Fr) (R : RawF) : Prop where
 fn : FnCV w g R.V
 fv : FnV K.wI K.wI.heap.size R.V (fnOf K.fs x.f)
 e11 : w.cell? ⟨g, 11, none⟩ = some (.int .i64 (x.f : Int))
 e12 : w.cell? ⟨g, 12, none⟩ = some (.int .i64 (x.pc : Int))
 e13 : w.cell? ⟨g, 13, none⟩ = some (.slice R.A13 R.m13 R.c13)
 e14 : w.cell? ⟨g, 14, none⟩ = some (.slice R.A14 R.n14 R.c14)
 e15 : w.cell? ⟨g, 15, none⟩ = some (.slice R.A15 R.n15 R.c15)
 e16 : w.cell? ⟨g, 16, none⟩ = some (.pointer fr)
 fz : ∀ i, w.frozen? ⟨g, i, none⟩ = false
 r13 : RowV w (g + 1) R.A13 R.m13 R.c13 R.sl
 r14 : RowV w (g + 1) R.A14 R.n14 R.c14 R.st
 r15 : RowC w (g + 1) R.A15 R.n15 R.c15 R.cs
 tg : τ g = (L, 0)
 t13 : ∀ j, R.A13 = some ⟨j, 0, none⟩ → τ j = (L, 1)
 t14 : ∀ j, R.A14 = some ⟨j, 0, none⟩ → τ j = (L, 2)
 t15 : ∀ j, R.A15 = some ⟨j, 0, none⟩ → τ j = (L, 3)
 args : ∀ q ∈ R.cs, Im τ w q.A q.n 3 (rowVl q.l)
 asl : cnL R.sl = x.sl
 ast : x.mode = 0 → cnL R.st = x.st
 acs : R.cs.map (fun q => (q.f, cnL q.l)) = x.cs.map (fun c => ((c.f : Int), c.args))
def FZ (K : RK) (τ : Nat → Tag) (L : Nat) (w : World) (g : Nat) (fr : Option Addr) (x : Fr) : Prop := ∃ R, FZr K τ L w g fr x R
variable {K : RK} {L g : Nat} {fr : Option Addr} {x : Fr} {R : RawF}
theorem FZr.lt (h : FZr K τ L w g fr x R) : g < w.heap.size := World.block_lt_of_cell? _ _ h.e11
theorem FZr.slots (h : FZr K τ L w g fr x R) (k : Tr T τ w τ' w') (h0 : ¬ T (L, 0)) (h2 : ¬ T (L, 2)) (h3 : ¬ T (L, 3)) (hT : ¬ T (0, 0)) {sl : List DV} (hr : RowV w' (g + 1) R.A13 R.m13 R.c13 sl) : FZr K τ' L w' g fr { x with sl := cnL sl } { R with sl := sl } := by
 have hg : ¬ T (τ g) := by rw [h.tg]; exact h0
 have q : ∀ {i : Nat} {v : Value}, w.cell? ⟨g, i, none⟩ = some v → w'.cell? ⟨g, i, none⟩ = some v := fun hc => k.cellv hc hg
 obtain ⟨z0, z1, z2, z3, z4, z5, z6, z7, z8, z9, z10⟩ := h.fn
 exact ⟨⟨q z0, q z1, q z2, q z3, q z4, q z5, q z6, q z7, q z8, q z9, q z10⟩, h.fv, q h.e11, q h.e12, q h.e13, q h.e14, q h.e15, q h.e16, fun i => (k.kp.frozen h.lt hg).trans (h.fz i), hr, RowF.kp h.r14 k.kp fun j e => by rw [h.t14 j e]; exact h2, RowF.kp h.r15 k.kp fun j e => by rw [h.t15 j e]; exact h3, (k.eq g h.lt).trans h.tg, fun j e => (k.eq j (row_ge h.r13 e).2).trans (h.t13 j e), fun j e => (k.eq j (row_ge h.r14 e).2).trans (h.t14 j e), fun j e => (k.eq j (row_ge h.r15 e).2).trans (h.t15 j e), fun q hq => (h.args q hq).tr k hT, rfl, h.ast, h.acs⟩
theorem FZr.tr (h : FZr K τ L w g fr x R) (k : Tr T τ w τ' w') (h0 : ¬ T (L, 0)) (h1 : ¬ T (L, 1)) (h2 : ¬ T (L, 2)) (h3 : ¬ T (L, 3)) (hT : ¬ T (0, 0)) : FZr K τ' L w' g fr x R := by
 have := h.slots k h0 h2 h3 hT (RowF.kp h.r13 k.kp fun j e => by rw [h.t13 j e]; exact h1)
 rw [h.asl] at this
 exact this
theorem tag_row {A A' : Option Addr} {t : Tag} (hn : Nw w A A') (ht : ∀ j, A = some ⟨j, 0, none⟩ → τ j = t) (hz : ∀ j, w.heap.size ≤ j → τ j = (0, 0)) (hlt : ∀ j, A' = some ⟨j, 0, none⟩ → j < w'.heap.size) (hs : w.heap.size ≤ w'.heap.size) : ∃ τ' : Nat → Tag, (∀ j, j < w.heap.size → τ' j = τ j) ∧ (∀ j, A' = some ⟨j, 0, none⟩ → τ' j = t) ∧ (∀ j, w'.heap.size ≤ j → τ' j = (0, 0)) ∧ ∀ j, w.heap.size ≤ j → ¬ A' = some ⟨j, 0, none⟩ → τ' j = (0, 0) := by
 rcases hn with rfl | rfl | ⟨k, rfl, hk2⟩
 ·exact ⟨τ, fun _ _ => rfl, ht, fun j hj => hz j (by omega), fun j hj _ => hz j hj⟩
 ·exact ⟨τ, fun _ _ => rfl, (fun j e => by cases e), fun j hj => hz j (by omega), fun j hj _ => hz j hj⟩
 ·refine ⟨fun j => if j = k then t else τ j, fun j hj => if_neg (by omega), fun j e => ?_, fun j hj => ?_, fun j hj hne => ?_⟩
  ·injection e with e
   injection e with e
   exact if_pos e.symm
  ·have := hlt k rfl
   show (if j = k then t else τ j) = _
   rw [if_neg (by omega)]
   exact hz j (by omega)
  ·show (if j = k then t else τ j) = _
   rw [if_neg (fun e => hne (by rw [e]))]
   exact hz j hj
theorem Im.re {A : Option Addr} {n sz : Nat} {cs : List Value} (h : Im τ w A n sz cs) (he : ∀ j, j < w.heap.size → τ' j = τ j) {S : Nat → Prop} (k : Kp S w w') (hS : ∀ j, j < w.heap.size → S j → τ j ≠ (0, 0)) : Im τ' w' A n sz cs := by
 have h1 := h.kp k hS
 exact ⟨h1.src, fun ad ha => by
  obtain ⟨b, off, e, hb, hf⟩ := h.at_ ad ha
  exact ⟨b, off, e, Nat.lt_of_lt_of_le hb k.size, by rw [he b hb]; exact hf⟩⟩
theorem FZr.stack (h : FZr K τ L w g fr x R) (hL : 1 ≤ L) {A' : Option Addr} {n' c' : Nat} {st' : List DV} (hk : Kp (fun j => j = g ∨ R.A14 = some ⟨j, 0, none⟩) w w') (h14 : w'.cell? ⟨g, 14, none⟩ = some (.slice A' n' c')) (hc : ∀ i, i ≠ 14 → w'.cell? ⟨g, i, none⟩ = w.cell? ⟨g, i, none⟩) (hf : ∀ i, w'.frozen? ⟨g, i, none⟩ = w.frozen? ⟨g, i, none⟩) (hr : RowV w' (g + 1) A' n' c' st') (hn : Nw w R.A14 A') (hz : ∀ j, w.heap.size ≤ j → τ j = (0, 0)) :
  ∃ τ', FZr K τ' L w' g fr { x with st := cnL st' } { R with A14 := A', n14 := n', c14 := c', st := st' } ∧ Tr (TF L) τ w τ' w' ∧ ∀ j, w.heap.size ≤ j → ¬ A' = some ⟨j, 0, none⟩ → τ' j = (0, 0) := by
 obtain ⟨τ', t1, t2, t3, t4⟩ := tag_row (τ := τ) (t := (L, 2)) hn h.t14 hz (fun j e => (row_ge hr e).2) hk.size
 have hS : ∀ j, (j = g ∨ R.A14 = some ⟨j, 0, none⟩) → τ j = (L, 0) ∨ τ j = (L, 2) := fun j hj => hj.elim (fun e => by rw [e]; exact .inl h.tg) fun e => .inr (h.t14 j e)
 have n13 : ∀ j, R.A13 = some ⟨j, 0, none⟩ → ¬ (j = g ∨ R.A14 = some ⟨j, 0, none⟩) := fun j e hj => by
  have := hS j hj
  rw [h.t13 j e] at this
  simp at this
 have n15 : ∀ j, R.A15 = some ⟨j, 0, none⟩ → ¬ (j = g ∨ R.A14 = some ⟨j, 0, none⟩) := fun j e hj => by
  have := hS j hj
  rw [h.t15 j e] at this
  simp at this
 obtain ⟨z0, z1, z2, z3, z4, z5, z6, z7, z8, z9, z10⟩ := h.fn
 refine ⟨τ', ⟨⟨(hc 0 (by decide)).trans z0, (hc 1 (by decide)).trans z1, (hc 2 (by decide)).trans z2, (hc 3 (by decide)).trans z3, (hc 4 (by decide)).trans z4, (hc 5 (by decide)).trans z5, (hc 6 (by decide)).trans z6, (hc 7 (by decide)).trans z7, (hc 8 (by decide)).trans z8, (hc 9 (by decide)).trans z9, (hc 10 (by decide)).trans z10⟩, h.fv, (hc 11 (by decide)).trans h.e11, (hc 12 (by decide)).trans h.e12, (hc 13 (by decide)).trans h.e13, h14, (hc 15 (by decide)).trans h.e15, (hc 16 (by decide)).trans h.e16, fun i => (hf i).trans (h.fz i), RowF.kp h.r13 hk n13, hr, RowF.kp h.r15 hk n15, (t1 g h.lt).trans h.tg, fun j e => (t1 j (row_ge h.r13 e).2).trans (h.t13 j e), t2, fun j e => (t1 j (row_ge h.r15 e).2).trans (h.t15 j e), fun q hq => (h.args q hq).re t1 hk fun j _ hj e => ?_, h.asl, fun _ => rfl, h.acs⟩, ⟨hk.mono fun j _ hj => ?_, t1, t3⟩, t4⟩
 ·rcases hS j hj with e' | e' <;> (rw [e] at e'; simp at e' <;> omega)
 ·rcases hS j hj with e' | e' <;> (show TF L (τ j); rw [e']; exact ⟨rfl, by simp⟩)
theorem FZr.calls (h : FZr K τ L w g fr x R) (hL : 1 ≤ L) {A' : Option Addr} {n' c' : Nat} {cs' : List CW} {ws : List Wt} (hk : Kp (fun j => j = g ∨ R.A15 = some ⟨j, 0, none⟩) w w') (h15 : w'.cell? ⟨g, 15, none⟩ = some (.slice A' n' c')) (hc : ∀ i, i ≠ 15 → w'.cell? ⟨g, i, none⟩ = w.cell? ⟨g, i, none⟩) (hf : ∀ i, w'.frozen? ⟨g, i, none⟩ = w.frozen? ⟨g, i, none⟩) (hr : RowC w' (g + 1) A' n' c' cs') (hn : Nw w R.A15 A') (hz : ∀ j, w.heap.size ≤ j → τ j = (0, 0))
  (hq : ∀ q ∈ cs', q ∈ R.cs ∨ Rdv (fun j => j < w.heap.size ∨ A' = some ⟨j, 0, none⟩) w' q.A q.n 3 (rowVl q.l)) (hws : cs'.map (fun q => (q.f, cnL q.l)) = ws.map (fun c => ((c.f : Int), c.args))) :
  ∃ τ', FZr K τ' L w' g fr { x with cs := ws } { R with A15 := A', n15 := n', c15 := c', cs := cs' } ∧ Tr (TF L) τ w τ' w' ∧ ∀ j, w.heap.size ≤ j → ¬ A' = some ⟨j, 0, none⟩ → τ' j = (0, 0) := by
 obtain ⟨τ', t1, t2, t3, t4⟩ := tag_row (τ := τ) (t := (L, 3)) hn h.t15 hz (fun j e => (row_ge hr e).2) hk.size
 have hS : ∀ j, (j = g ∨ R.A15 = some ⟨j, 0, none⟩) → τ j = (L, 0) ∨ τ j = (L, 3) := fun j hj => hj.elim (fun e => by rw [e]; exact .inl h.tg) fun e => .inr (h.t15 j e)
 have n13 : ∀ j, R.A13 = some ⟨j, 0, none⟩ → ¬ (j = g ∨ R.A15 = some ⟨j, 0, none⟩) := fun j e hj => by
  have := hS j hj
  rw [h.t13 j e] at this
  simp at this
 have n14 : ∀ j, R.A14 = some ⟨j, 0, none⟩ → ¬ (j = g ∨ R.A15 = some ⟨j, 0, none⟩) := fun j e hj => by
  have := hS j hj
  rw [h.t14 j e] at this
  simp at this
 have hS0 : ∀ j, j < w.heap.size → (j = g ∨ R.A15 = some ⟨j, 0, none⟩) → τ j ≠ (0, 0) := fun j _ hj e => by
  rcases hS j hj with e' | e' <;> (rw [e] at e'; simp at e' <;> omega)
 obtain ⟨z0, z1, z2, z3, z4, z5, z6, z7, z8, z9, z10⟩ := h.fn
 refine ⟨τ', ⟨⟨(hc 0 (by decide)).trans z0, (hc 1 (by decide)).trans z1, (hc 2 (by decide)).trans z2, (hc 3 (by decide)).trans z3, (hc 4 (by decide)).trans z4, (hc 5 (by decide)).trans z5, (hc 6 (by decide)).trans z6, (hc 7 (by decide)).trans z7, (hc 8 (by decide)).trans z8, (hc 9 (by decide)).trans z9, (hc 10 (by decide)).trans z10⟩, h.fv, (hc 11 (by decide)).trans h.e11, (hc 12 (by decide)).trans h.e12, (hc 13 (by decide)).trans h.e13, (hc 14 (by decide)).trans h.e14, h15, (hc 16 (by decide)).trans h.e16, fun i => (hf i).trans (h.fz i), RowF.kp h.r13 hk n13, RowF.kp h.r14 hk n14, hr, (t1 g h.lt).trans h.tg, fun j e => (t1 j (row_ge h.r13 e).2).trans (h.t13 j e), fun j e => (t1 j (row_ge h.r14 e).2).trans (h.t14 j e), t2, fun q hq' => ?_, h.asl, h.ast, hws⟩, ⟨hk.mono fun j _ hj => ?_, t1, t3⟩, t4⟩
 ·rcases hq q hq' with hq | hq
  ·exact (h.args q hq).re t1 hk hS0
  ·exact hq.mono fun j hj hne => by
    rcases Nat.lt_or_ge j w.heap.size with hl | hl
    ·exact .inl hl
    ·exact .inr (by
      refine Classical.byContradiction fun hA => hne (t4 j hl hA))
 ·rcases hS j hj with e' | e' <;> (show TF L (τ j); rw [e']; exact ⟨rfl, by simp⟩)
theorem FZr.pc (h : FZr K τ L w g fr x R) (hL : 1 ≤ L) (hz : ∀ j, w.heap.size ≤ j → τ j = (0, 0)) (p : Nat) : FZr K τ L (w.setCell ⟨g, 12, none⟩ (.int .i64 (p : Int))) g fr { x with pc := p } R ∧ Tr (TF L) τ w τ (w.setCell ⟨g, 12, none⟩ (.int .i64 (p : Int))) := by
 have hk : Kp (fun j => j = g) w (w.setCell ⟨g, 12, none⟩ (.int .i64 (p : Int))) := (Kp.refl (fun j => j = g) w).setCell (p := ⟨g, 12, none⟩) (fun _ => rfl) _
 have hc : ∀ i, i ≠ 12 → (w.setCell ⟨g, 12, none⟩ (.int .i64 (p : Int))).cell? ⟨g, i, none⟩ = w.cell? ⟨g, i, none⟩ := fun i hi => World.cell?_setCell_other _ _ _ _ (by simp; try omega)
 have h12 : (w.setCell ⟨g, 12, none⟩ (.int .i64 (p : Int))).cell? ⟨g, 12, none⟩ = some (.int .i64 (p : Int)) := by simp [go_sem, h.e12]
 have hsz : (w.setCell ⟨g, 12, none⟩ (.int .i64 (p : Int))).heap.size = w.heap.size := by simp [World.setCell]
 have gr : ∀ {e : TypeId} {size : Nat} {A : Option Addr} {n c : Nat} {xs : List Value}, RowF w (g + 1) e size A n c xs → RowF (w.setCell ⟨g, 12, none⟩ (.int .i64 (p : Int))) (g + 1) e size A n c xs := fun h => RowF.kp h hk fun j hj e => by have := (row_ge h hj).1; omega
 obtain ⟨z0, z1, z2, z3, z4, z5, z6, z7, z8, z9, z10⟩ := h.fn
 refine ⟨⟨⟨(hc 0 (by decide)).trans z0, (hc 1 (by decide)).trans z1, (hc 2 (by decide)).trans z2, (hc 3 (by decide)).trans z3, (hc 4 (by decide)).trans z4, (hc 5 (by decide)).trans z5, (hc 6 (by decide)).trans z6, (hc 7 (by decide)).trans z7, (hc 8 (by decide)).trans z8, (hc 9 (by decide)).trans z9, (hc 10 (by decide)).trans z10⟩, h.fv, (hc 11 (by decide)).trans h.e11, h12, (hc 13 (by decide)).trans h.e13, (hc 14 (by decide)).trans h.e14, (hc 15 (by decide)).trans h.e15, (hc 16 (by decide)).trans h.e16, fun i => (World.frozen?_setCell _ _ _ _).trans (h.fz i), gr h.r13, gr h.r14, gr h.r15, h.tg, h.t13, h.t14, h.t15, fun q hq => (h.args q hq).re (fun _ _ => rfl) hk fun j _ e e' => ?_, h.asl, h.ast, h.acs⟩, ⟨hk.mono fun j _ e => ?_, fun _ _ => rfl, fun j hj => hz j (by omega)⟩⟩
 ·rw [e, h.tg] at e'
  simp at e'
  omega
 ·show TF L (τ j)
  rw [e, h.tg]
  exact ⟨rfl, by simp⟩
end
end Go.Proofs.YtobmjnmcjddhcaaGreat
