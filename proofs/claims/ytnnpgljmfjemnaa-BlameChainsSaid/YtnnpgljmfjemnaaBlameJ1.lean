/-
  Panics: a copy of a chain, each traceback beyond the row itself.
-/
import Derived.Test.YtnnpgljmfjemnaaBlame7
namespace Go.Proofs.Ytnnpgljmfjemnaa
open Go.RowKit
set_option linter.unusedSimpArgs false
set_option linter.unusedVariables false

/-- The i-th of a chain that lies at g. -/
structure AtL (w : World) (g : Nat) (cells : List Value) (i : Nat) (x : DBlame) (A : Option Addr) (m c : Nat) : Prop where
  h0 : cells[i * 4]? = some (.int .i64 x.kind)
  h1 : cells[i * 4 + 1]? = some (.int .i64 x.num)
  h2 : cells[i * 4 + 2]? = some (.bool x.reco)
  h3 : cells[i * 4 + 3]? = some (.slice A m c)
  tr : SlE w w.heap.size A m c x.trace
  far : ∀ ad, A = some ad → g < ad.block
  ok0 : (Lit.int .i64 x.kind).wf = true
  ok1 : (Lit.int .i64 x.num).wf = true
def FilledL (w : World) (g : Nat) (cells : List Value) (xs : List DBlame) (k : Nat) : Prop := ∀ i x, i < k → xs[i]? = some x → ∃ A m c, AtL w g cells i x A m c
theorem FilledL.start (w : World) (g : Nat) (cells : List Value) (xs : List DBlame) : FilledL w g cells xs 0 := fun i x h => absurd h (by omega)
/-- What is done elsewhere lets an entry stand. -/
theorem AtL.keep {w w' : World} {g : Nat} {cells cells' : List Value} {i : Nat} {x : DBlame} {A : Option Addr} {m c : Nat} (h : AtL w g cells i x A m c)
    (hc : ∀ j, j < 4 → cells'[i * 4 + j]? = cells[i * 4 + j]?) (hk : ∀ q : Addr, g < q.block → q.block < w.heap.size → w'.cell? q = w.cell? q) (hs : w.heap.size ≤ w'.heap.size) : AtL w' g cells' i x A m c :=
  ⟨by have := hc 0 (by omega); rw [Nat.add_zero] at this; rw [this]; exact h.h0, by rw [hc 1 (by omega)]; exact h.h1, by rw [hc 2 (by omega)]; exact h.h2, by rw [hc 3 (by omega)]; exact h.h3,
   h.tr.keepAt (fun b => g < b) h.far hk hs, h.far, h.ok0, h.ok1⟩

theorem filledL_sl {w : World} {base g n : Nat} {cells : List Value} {xs : List DBlame} (hown : w.ownsRow base 35 4 (.slice (some ⟨g, 0, none⟩) n n) n cells) (hf : FilledL w g cells xs n) (hl : xs.length = n) (hm : n ≤ maxLen) (hb : n * 48 ≤ reachBytes) : SlC w w.heap.size (some ⟨g, 0, none⟩) n n xs := by
  refine ⟨hl, Nat.le_refl _, hm, hb, fun hn => ⟨g, 0, rfl, (hown.lt _ rfl).2, fun i x hi => ?_⟩⟩
  have hlt := (List.getElem?_eq_some_iff.1 hi).1
  obtain ⟨A, m, c, h⟩ := hf i x (by omega) hi
  refine ⟨[.int .i64 x.kind, .int .i64 x.num, .bool x.reco, .slice A m c], rfl, fun j u hj => ?_, ⟨A, m, c, rfl, h.ok0, h.ok1, h.tr⟩⟩
  have hj4 : j < 4 := (List.getElem?_eq_some_iff.1 hj).1
  rw [Nat.zero_add, hown.cellAt _ (by omega)]
  match j, hj4 with
  | 0, _ => rw [Nat.add_zero, h.h0]; simpa using hj
  | 1, _ => rw [h.h1]; simpa using hj
  | 2, _ => rw [h.h2]; simpa using hj
  | 3, _ => rw [h.h3]; simpa using hj

def IsChainL (n : Nat) (xs : List DBlame) (w : World) (e : Ending) (w' : World) : Prop := ∃ g cells, e = .returned (.slice (some ⟨g, 0, none⟩) n n) ∧ w'.ownsRow w.heap.size 35 4 (.slice (some ⟨g, 0, none⟩) n n) n cells ∧ FilledL w' g cells xs n ∧ Below w.heap.size w w'

/-- The round's end. -/
theorem copyL_step {w wr w2 : World} {n k : Nat} {cells : List Value} {xs : List DBlame} {x : DBlame} {A A0 : Option Addr} {m c m0 c0 : Nat} (hk : k < n) (hx : xs[k]? = some x)
    (hg : w.heap.size < wr.heap.size)
    (hown : wr.ownsRow w.heap.size 35 4 (.slice (some ⟨w.heap.size, 0, none⟩) n n) n cells) (hf : FilledL wr w.heap.size cells xs k) (hbw : Below w.heap.size w wr)
    {w1 : World} (hw1 : w1 = (((wr.setCell ⟨w.heap.size, k * 4, none⟩ (.int .i64 x.kind)).setCell ⟨w.heap.size, k * 4 + 1, none⟩ (.int .i64 x.num)).setCell ⟨w.heap.size, k * 4 + 2, none⟩ (.bool x.reco)).setCell ⟨w.heap.size, k * 4 + 3, none⟩ (.slice A0 m0 c0))
    (hs : SlE w2 w2.heap.size A m c x.trace) (hb : Below w1.heap.size w1 w2) (hat : ∀ ad, A = some ad → w1.heap.size ≤ ad.block) (ok0 : (Lit.int .i64 x.kind).wf = true) (ok1 : (Lit.int .i64 x.num).wf = true) :
    ∃ cells', (w2.setCell ⟨w.heap.size, k * 4 + 3, none⟩ (.slice A m c)).ownsRow w.heap.size 35 4 (.slice (some ⟨w.heap.size, 0, none⟩) n n) n cells' ∧ FilledL (w2.setCell ⟨w.heap.size, k * 4 + 3, none⟩ (.slice A m c)) w.heap.size cells' xs (k + 1) ∧
      Below w.heap.size w (w2.setCell ⟨w.heap.size, k * 4 + 3, none⟩ (.slice A m c)) := by
  have hl : cells.length = n * 4 := hown.1
  have hz : w1.heap.size = wr.heap.size := by rw [hw1]; simp
  have hown1 : w1.ownsRow w.heap.size 35 4 (.slice (some ⟨w.heap.size, 0, none⟩) n n) n (lay4 cells k (.int .i64 x.kind) (.int .i64 x.num) (.bool x.reco) (.slice A0 m0 c0)) := by
    rw [hw1]
    exact ((((hown.stored _ _).1.stored _ _).1.stored _ _).1.stored _ _).1
  have hown2 := own_keep hown1 hb
  have hown3 := (hown2.stored (k * 4 + 3) (.slice A m c)).1
  have e3 : (lay4 cells k (.int .i64 x.kind) (.int .i64 x.num) (.bool x.reco) (.slice A0 m0 c0)).set (k * 4 + 3) (.slice A m c) = lay4 cells k (.int .i64 x.kind) (.int .i64 x.num) (.bool x.reco) (.slice A m c) := by
    unfold lay4
    rw [List.set_set]
  rw [e3] at hown3
  have hcell : ∀ q : Addr, w.heap.size < q.block → q.block < wr.heap.size → (w2.setCell ⟨w.heap.size, k * 4 + 3, none⟩ (.slice A m c)).cell? q = wr.cell? q := by
    intro q hq1 hq2
    rw [World.cell?_setCell_far _ _ _ _ (by show w.heap.size ≠ q.block; exact Nat.ne_of_lt hq1), hb.cell (by omega), hw1]
    rw [World.cell?_setCell_far _ _ _ _ (by show w.heap.size ≠ q.block; exact Nat.ne_of_lt hq1), World.cell?_setCell_far _ _ _ _ (by show w.heap.size ≠ q.block; exact Nat.ne_of_lt hq1), World.cell?_setCell_far _ _ _ _ (by show w.heap.size ≠ q.block; exact Nat.ne_of_lt hq1), World.cell?_setCell_far _ _ _ _ (by show w.heap.size ≠ q.block; exact Nat.ne_of_lt hq1)]
  refine ⟨_, hown3, fun i y hi hy => ?_, ?_⟩
  · by_cases hik : i = k
    · subst hik
      rw [hx] at hy
      injection hy with hy
      subst hy
      obtain ⟨a0, a1, a2, a3⟩ := lay4_in hl hk (.int .i64 x.kind) (.int .i64 x.num) (.bool x.reco) (.slice A m c)
      refine ⟨A, m, c, a0, a1, a2, a3, hs.keepAt (fun b => w.heap.size < b) (fun ad had => by have := hat ad had; omega) (fun q hq1 _ => ?_) (by simp), fun ad had => by have := hat ad had; omega, ok0, ok1⟩
      rw [World.cell?_setCell_far _ _ _ _ (by show w.heap.size ≠ q.block; exact Nat.ne_of_lt hq1)]
    · obtain ⟨A', m', c', h⟩ := hf i y (by omega) hy
      refine ⟨A', m', c', h.keep (fun j hj => lay4_out (by omega) hj _ _ _ _) hcell ?_⟩
      have := hb.size
      simp
      omega
  · refine below_set ?_ (Nat.le_refl _) _
    refine Below.trans ?_ (hb.mono (by omega))
    rw [hw1]
    exact below_set (below_set (below_set (below_set hbw (Nat.le_refl _) _) (Nat.le_refl _) _) (Nat.le_refl _) _) (Nat.le_refl _) _

set_option maxRecDepth 100000 in
set_option maxHeartbeats 2000000 in
theorem copyL_any (A : Option Addr) (n c : Nat) (xs : List DBlame) (w : World) (h : SlC w w.heap.size A n c xs) (hn : n ≤ 100) :
    Calls Try.prog 26 #[.slice A n c] w (IsChainL n xs w) := by
  obtain ⟨i0, hi, hz0, hz1, hz2⟩ := info_parts info_blame
  obtain ⟨MC, hMC, hsz⟩ : ∃ MC : Array Value, (∀ W, (Instr.makeSlice 22 (.int .i64 (n : Int)) (.int .i64 (n : Int))).run Try.prog W = .ok (.slice (some ⟨W.heap.size, 0, none⟩) n n) (W.alloc (.cells MC 35))) ∧ MC.size = n * 4 := by
    refine ⟨madeCells (Value.agg #[.int .i64 0, .int .i64 0, .bool false, .slice none 0 0]).cells (n * i0.size), fun W => ?_, by rw [size_madeCells, hz1]⟩
    have := run_make (P := Try.prog) W 22 35 i0 _ Try.underlying22 hi hz0 .i64 .i64 (n : Int) (n : Int) (by omega) (by omega) (by rw [hz2]; omega) (by omega)
    simpa using this
  have hl := h.1
  have H := Lib.hid h
  have c1 : ∀ (B : Nat) (A0 : Option Addr) (n0 c0 : Nat) (es : List DEntry) (W : World), SlE W B A0 n0 c0 es → Hid (Calls Try.prog 69 #[.slice A0 n0 c0] W (IsEntries es W)) := fun B A0 n0 c0 es W hs => clone_any B A0 n0 c0 es W hs
  have hown0 := Lib.hid (World.ownsRow_lit (base := w.heap.size) (e := 35) (size := 4) w MC n (Nat.le_refl _) (by unfold maxLen; omega) hsz)
  have hnm : n ≤ 9223372036854775807 := by omega
  clear h hi hz0 hz1 hz2 hsz
  go_enter Try.func26, Try.ntmps26
  go_wp2
  go_loopw [10] (fun i wr => ∃ (k : Nat) (cells : List Value), i = .int .i64 k ∧ k ≤ n ∧ wr.ownsRow w.heap.size 35 4 (.slice (some ⟨w.heap.size, 0, none⟩) n n) n cells ∧ FilledL wr w.heap.size cells xs k ∧ Below w.heap.size w wr ∧ w.heap.size < wr.heap.size) (fun i _ => n - (intOf i).toNat)
  case atStart => exact ⟨0, MC.toList, rfl, Nat.zero_le _, hown0.out, FilledL.start _ _ _ _, (Below.refl _ _).alloc (Nat.le_refl _) _, by simp⟩
  case round =>
    obtain ⟨k, cells, rfl, hk, hown, hf, hbw, hgt⟩ := hrel
    have HO := Lib.hid hown
    have HF := Lib.hid hf
    have HB := Lib.hid hbw
    have HG := Lib.hid hgt
    clear hown hf hbw hgt
    by_cases hlt : k < n
    · obtain ⟨b, off, x, A0, n0, c0, rfl, hb, hx, q0, q1, q2, q3, hs, ok0, ok1⟩ := SlR.cell4 H.out hlt
      have hll : cells.length = n * 4 := HO.out.1
      obtain ⟨u0, d0⟩ : ∃ u, wr.cell? ⟨w.heap.size, k * 4, none⟩ = some u := ⟨cells[k * 4]'(by omega), by rw [HO.out.cellAt _ (by omega)]; exact List.getElem?_eq_getElem _⟩
      obtain ⟨u1, d1⟩ : ∃ u, wr.cell? ⟨w.heap.size, k * 4 + 1, none⟩ = some u := ⟨cells[k * 4 + 1]'(by omega), by rw [HO.out.cellAt _ (by omega)]; exact List.getElem?_eq_getElem _⟩
      obtain ⟨u2, d2⟩ : ∃ u, wr.cell? ⟨w.heap.size, k * 4 + 2, none⟩ = some u := ⟨cells[k * 4 + 2]'(by omega), by rw [HO.out.cellAt _ (by omega)]; exact List.getElem?_eq_getElem _⟩
      obtain ⟨u3, d3⟩ : ∃ u, wr.cell? ⟨w.heap.size, k * 4 + 3, none⟩ = some u := ⟨cells[k * 4 + 3]'(by omega), by rw [HO.out.cellAt _ (by omega)]; exact List.getElem?_eq_getElem _⟩
      have f0 := HO.out.frozenAt (k * 4)
      have f1 := HO.out.frozenAt (k * 4 + 1)
      have f2 := HO.out.frozenAt (k * 4 + 2)
      have f3 := HO.out.frozenAt (k * 4 + 3)
      have p0 : wr.cell? ⟨b, off + k * 4, none⟩ = some (.int .i64 x.kind) := (HB.out.cell hb).trans q0
      have p1 : wr.cell? ⟨b, off + k * 4 + 1, none⟩ = some (.int .i64 x.num) := (HB.out.cell hb).trans q1
      have p2 : wr.cell? ⟨b, off + k * 4 + 2, none⟩ = some (.bool x.reco) := (HB.out.cell hb).trans q2
      have p3 : wr.cell? ⟨b, off + k * 4 + 3, none⟩ = some (.slice A0 n0 c0) := (HB.out.cell hb).trans q3
      have hne : ¬ w.heap.size = b := by omega
      have hne' : ¬ b = w.heap.size := by omega
      have HX := Lib.hid hx
      have HS := Lib.hid hs
      have HK := Lib.hid ok0
      have HN := Lib.hid ok1
      obtain ⟨x0, hx0⟩ : ∃ z, x.kind = z := ⟨_, rfl⟩
      obtain ⟨x1, hx1⟩ : ∃ z, x.num = z := ⟨_, rfl⟩
      obtain ⟨x2, hx2⟩ : ∃ z, x.reco = z := ⟨_, rfl⟩
      rw [hx0] at p0
      rw [hx1] at p1
      rw [hx2] at p2
      have E0 := Lib.hid hx0
      have E1 := Lib.hid hx1
      have E2 := Lib.hid hx2
      clear hx hs ok0 ok1 q0 q1 q2 q3 hll hx0 hx1 hx2
      go_wp2_with fail
      obtain ⟨w1, hw1⟩ : ∃ w1, (((wr.setCell ⟨w.heap.size, k * 4, none⟩ (.int .i64 x0)).setCell ⟨w.heap.size, k * 4 + 1, none⟩ (.int .i64 x1)).setCell ⟨w.heap.size, k * 4 + 2, none⟩ (.bool x2)).setCell ⟨w.heap.size, k * 4 + 3, none⟩ (.slice A0 n0 c0) = w1 := ⟨_, rfl⟩
      rw [hw1]
      have HW : Hid (w1 = (((wr.setCell ⟨w.heap.size, k * 4, none⟩ (.int .i64 x.kind)).setCell ⟨w.heap.size, k * 4 + 1, none⟩ (.int .i64 x.num)).setCell ⟨w.heap.size, k * 4 + 2, none⟩ (.bool x.reco)).setCell ⟨w.heap.size, k * 4 + 3, none⟩ (.slice A0 n0 c0)) := by
        show w1 = _
        rw [E0.out, E1.out, E2.out, hw1]
      have hb1 : Below w.heap.size w w1 := by
        rw [← hw1]
        exact below_set (below_set (below_set (below_set HB.out (Nat.le_refl _) _) (Nat.le_refl _) _) (Nat.le_refl _) _) (Nat.le_refl _) _
      have hown1 := ((((HO.out.stored (k * 4) (.int .i64 x0)).1.stored (k * 4 + 1) (.int .i64 x1)).1.stored (k * 4 + 2) (.bool x2)).1.stored (k * 4 + 3) (.slice A0 n0 c0)).1
      rw [hw1] at hown1
      clear hw1 d0 d1 d2 d3 f0 f1 f2 f3 p0 p1 p2 p3
      refine Calls.mono (c1 w.heap.size A0 n0 c0 x.trace w1 (HS.out.keep hb1)).out ?_
      rintro e w2 ⟨A', m', c', rfl, hs2, hb2, hat⟩
      have hown2 := own_keep hown1 hb2
      obtain ⟨u3, d3⟩ : ∃ u, w2.cell? ⟨w.heap.size, k * 4 + 3, none⟩ = some u := by
        have := hown2.cellAt (k * 4 + 3) (by omega)
        have hl4 := hown2.1
        exact ⟨_, this.trans (List.getElem?_eq_getElem (by omega))⟩
      have f3 := hown2.frozenAt (k * 4 + 3)
      have X := Lib.hid (copyL_step hlt HX.out HG.out HO.out HF.out HB.out HW.out hs2 hb2 hat HK.out HN.out)
      have hsz2 : Hid (w.heap.size < w2.heap.size) := by
        show _ < _
        have h1 := hb2.size
        have h2 := HG.out
        have h3 : w1.heap.size = wr.heap.size := by rw [HW.out]; simp
        omega
      clear hown1 hown2 hs2 hb2 hat hb1
      go_wp2_with fail
      go_roundw
      case rel =>
        obtain ⟨cells', h1, h2, h3⟩ := X.out
        exact ⟨k + 1, cells', by go_num, by omega, h1, h2, h3, by simpa using hsz2.out⟩
      case measure => simp [intOf]; omega
    · have hkn : k = n := by omega
      subst hkn
      go_wp2
      go_ret
      exact ⟨_, cells, rfl, HO.out, HF.out, HB.out⟩
end Go.Proofs.Ytnnpgljmfjemnaa
