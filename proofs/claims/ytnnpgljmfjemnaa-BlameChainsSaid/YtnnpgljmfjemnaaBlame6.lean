/-
  Panics: a copy of a chain: the walk.
-/
import Derived.Test.YtnnpgljmfjemnaaBlame5
namespace Go.Proofs.Ytnnpgljmfjemnaa
open Go.RowKit
set_option linter.unusedSimpArgs false
set_option linter.unusedVariables false

set_option maxRecDepth 100000 in
set_option maxHeartbeats 2000000 in
theorem copy_any (A : Option Addr) (n c : Nat) (xs : List DBlame) (w : World) (h : SlC w w.heap.size A n c xs) (hn : n ≤ 100) :
    Calls Try.prog 26 #[.slice A n c] w (IsChain n xs w) := by
  obtain ⟨i0, hi, hz0, hz1, hz2⟩ := info_parts info_blame
  obtain ⟨MC, hMC, hsz⟩ : ∃ MC : Array Value, (∀ W, (Instr.makeSlice 22 (.int .i64 (n : Int)) (.int .i64 (n : Int))).run Try.prog W = .ok (.slice (some ⟨W.heap.size, 0, none⟩) n n) (W.alloc (.cells MC 35))) ∧ MC.size = n * 4 := by
    refine ⟨madeCells (Value.agg #[.int .i64 0, .int .i64 0, .bool false, .slice none 0 0]).cells (n * i0.size), fun W => ?_, by rw [size_madeCells, hz1]⟩
    have := run_make (P := Try.prog) W 22 35 i0 _ Try.underlying22 hi hz0 .i64 .i64 (n : Int) (n : Int) (by omega) (by omega) (by rw [hz2]; omega) (by omega)
    simpa using this
  have hl := h.1
  have H := Lib.hid h
  have c1 : ∀ (B : Nat) (A0 : Option Addr) (n0 c0 : Nat) (es : List DEntry) (W : World), SlE W B A0 n0 c0 es → Hid (Calls Try.prog 69 #[.slice A0 n0 c0] W (IsEntries es W)) := fun B A0 n0 c0 es W hs => clone_any B A0 n0 c0 es W hs
  have hown0 := Lib.hid (World.ownsRow_lit (base := w.heap.size) (e := 35) (size := 4) w MC n (Nat.le_refl _) (by unfold maxLen; omega) hsz)
  have hnm : n ≤ 9223372036854775807 := by omega
  clear h hi hz0 hz1 hz2 hsz
  go_enter Try.func26, Try.ntmps26
  go_wp2
  go_loopw [10] (fun i wr => ∃ (k : Nat) (cells : List Value), i = .int .i64 k ∧ k ≤ n ∧ wr.ownsRow w.heap.size 35 4 (.slice (some ⟨w.heap.size, 0, none⟩) n n) n cells ∧ Filled wr w.heap.size cells xs k ∧ Below w.heap.size w wr ∧ w.heap.size < wr.heap.size) (fun i _ => n - (intOf i).toNat)
  case atStart => exact ⟨0, MC.toList, rfl, Nat.zero_le _, hown0.out, Filled.start _ _ _ _, (Below.refl _ _).alloc (Nat.le_refl _) _, by simp⟩
  case round =>
    obtain ⟨k, cells, rfl, hk, hown, hf, hbw, hgt⟩ := hrel
    have HO := Lib.hid hown
    have HF := Lib.hid hf
    have HB := Lib.hid hbw
    have HG := Lib.hid hgt
    clear hown hf hbw hgt
    by_cases hlt : k < n
    · obtain ⟨b, off, x, A0, n0, c0, rfl, hb, hx, q0, q1, q2, q3, hs, ok0, ok1⟩ := SlR.cell4 H.out hlt
      have hll : cells.length = n * 4 := HO.out.1
      obtain ⟨u0, d0⟩ : ∃ u, wr.cell? ⟨w.heap.size, k * 4, none⟩ = some u := ⟨cells[k * 4]'(by omega), by rw [HO.out.cellAt _ (by omega)]; exact List.getElem?_eq_getElem _⟩
      obtain ⟨u1, d1⟩ : ∃ u, wr.cell? ⟨w.heap.size, k * 4 + 1, none⟩ = some u := ⟨cells[k * 4 + 1]'(by omega), by rw [HO.out.cellAt _ (by omega)]; exact List.getElem?_eq_getElem _⟩
      obtain ⟨u2, d2⟩ : ∃ u, wr.cell? ⟨w.heap.size, k * 4 + 2, none⟩ = some u := ⟨cells[k * 4 + 2]'(by omega), by rw [HO.out.cellAt _ (by omega)]; exact List.getElem?_eq_getElem _⟩
      obtain ⟨u3, d3⟩ : ∃ u, wr.cell? ⟨w.heap.size, k * 4 + 3, none⟩ = some u := ⟨cells[k * 4 + 3]'(by omega), by rw [HO.out.cellAt _ (by omega)]; exact List.getElem?_eq_getElem _⟩
      have f0 := HO.out.frozenAt (k * 4)
      have f1 := HO.out.frozenAt (k * 4 + 1)
      have f2 := HO.out.frozenAt (k * 4 + 2)
      have f3 := HO.out.frozenAt (k * 4 + 3)
      have p0 : wr.cell? ⟨b, off + k * 4, none⟩ = some (.int .i64 x.kind) := (HB.out.cell hb).trans q0
      have p1 : wr.cell? ⟨b, off + k * 4 + 1, none⟩ = some (.int .i64 x.num) := (HB.out.cell hb).trans q1
      have p2 : wr.cell? ⟨b, off + k * 4 + 2, none⟩ = some (.bool x.reco) := (HB.out.cell hb).trans q2
      have p3 : wr.cell? ⟨b, off + k * 4 + 3, none⟩ = some (.slice A0 n0 c0) := (HB.out.cell hb).trans q3
      have hne : ¬ w.heap.size = b := by omega
      have hne' : ¬ b = w.heap.size := by omega
      have HX := Lib.hid hx
      have HS := Lib.hid hs
      have HK := Lib.hid ok0
      have HN := Lib.hid ok1
      obtain ⟨x0, hx0⟩ : ∃ z, x.kind = z := ⟨_, rfl⟩
      obtain ⟨x1, hx1⟩ : ∃ z, x.num = z := ⟨_, rfl⟩
      obtain ⟨x2, hx2⟩ : ∃ z, x.reco = z := ⟨_, rfl⟩
      rw [hx0] at p0
      rw [hx1] at p1
      rw [hx2] at p2
      have E0 := Lib.hid hx0
      have E1 := Lib.hid hx1
      have E2 := Lib.hid hx2
      clear hx hs ok0 ok1 q0 q1 q2 q3 hll hx0 hx1 hx2
      go_wp2_with fail
      obtain ⟨w1, hw1⟩ : ∃ w1, (((wr.setCell ⟨w.heap.size, k * 4, none⟩ (.int .i64 x0)).setCell ⟨w.heap.size, k * 4 + 1, none⟩ (.int .i64 x1)).setCell ⟨w.heap.size, k * 4 + 2, none⟩ (.bool x2)).setCell ⟨w.heap.size, k * 4 + 3, none⟩ (.slice A0 n0 c0) = w1 := ⟨_, rfl⟩
      rw [hw1]
      have HW : Hid (w1 = (((wr.setCell ⟨w.heap.size, k * 4, none⟩ (.int .i64 x.kind)).setCell ⟨w.heap.size, k * 4 + 1, none⟩ (.int .i64 x.num)).setCell ⟨w.heap.size, k * 4 + 2, none⟩ (.bool x.reco)).setCell ⟨w.heap.size, k * 4 + 3, none⟩ (.slice A0 n0 c0)) := by
        show w1 = _
        rw [E0.out, E1.out, E2.out, hw1]
      have hb1 : Below w.heap.size w w1 := by
        rw [← hw1]
        exact below_set (below_set (below_set (below_set HB.out (Nat.le_refl _) _) (Nat.le_refl _) _) (Nat.le_refl _) _) (Nat.le_refl _) _
      have hown1 := ((((HO.out.stored (k * 4) (.int .i64 x0)).1.stored (k * 4 + 1) (.int .i64 x1)).1.stored (k * 4 + 2) (.bool x2)).1.stored (k * 4 + 3) (.slice A0 n0 c0)).1
      rw [hw1] at hown1
      clear hw1 d0 d1 d2 d3 f0 f1 f2 f3 p0 p1 p2 p3
      refine Calls.mono (c1 w.heap.size A0 n0 c0 x.trace w1 (HS.out.keep hb1)).out ?_
      rintro e w2 ⟨A', m', c', rfl, hs2, hb2, hat⟩
      have hown2 := own_keep hown1 hb2
      obtain ⟨u3, d3⟩ : ∃ u, w2.cell? ⟨w.heap.size, k * 4 + 3, none⟩ = some u := by
        have := hown2.cellAt (k * 4 + 3) (by omega)
        have hl4 := hown2.1
        exact ⟨_, this.trans (List.getElem?_eq_getElem (by omega))⟩
      have f3 := hown2.frozenAt (k * 4 + 3)
      have X := Lib.hid (copy_step hlt HX.out HG.out HO.out HF.out HB.out HW.out hs2 hb2 hat HK.out HN.out)
      have hsz2 : Hid (w.heap.size < w2.heap.size) := by
        show _ < _
        have h1 := hb2.size
        have h2 := HG.out
        have h3 : w1.heap.size = wr.heap.size := by rw [HW.out]; simp
        omega
      clear hown1 hown2 hs2 hb2 hat hb1
      go_wp2_with fail
      go_roundw
      case rel =>
        obtain ⟨cells', h1, h2, h3⟩ := X.out
        exact ⟨k + 1, cells', by go_num, by omega, h1, h2, h3, by simpa using hsz2.out⟩
      case measure => simp [intOf]; omega
    · have hkn : k = n := by omega
      subst hkn
      go_wp2
      go_ret
      exact ⟨_, cells, rfl, HO.out, HF.out, HB.out⟩
end Go.Proofs.Ytnnpgljmfjemnaa
