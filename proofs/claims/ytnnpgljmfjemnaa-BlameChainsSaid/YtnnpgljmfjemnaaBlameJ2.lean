/-
  Panics: two chains, one behind the other.
-/
import Derived.Test.YtnnpgljmfjemnaaBlameJ1
namespace Go.Proofs.Ytnnpgljmfjemnaa
open Go.RowKit
set_option linter.unusedSimpArgs false
set_option linter.unusedVariables false

/-- The i-th of a chain, as its cells. -/
structure AtX (w : World) (cells : List Value) (i : Nat) (x : DBlame) (A : Option Addr) (m c : Nat) : Prop where
  h0 : cells[i * 4]? = some (.int .i64 x.kind)
  h1 : cells[i * 4 + 1]? = some (.int .i64 x.num)
  h2 : cells[i * 4 + 2]? = some (.bool x.reco)
  h3 : cells[i * 4 + 3]? = some (.slice A m c)
  tr : SlE w w.heap.size A m c x.trace
  ok0 : (Lit.int .i64 x.kind).wf = true
  ok1 : (Lit.int .i64 x.num).wf = true
def FilX (w : World) (cells : List Value) (xs : List DBlame) : Prop := ∀ i x, xs[i]? = some x → ∃ A m c, AtX w cells i x A m c
theorem filX_of {w : World} {g n : Nat} {cells : List Value} {xs : List DBlame} (hf : FilledL w g cells xs n) (hl : xs.length = n) : FilX w cells xs := fun i x hi => by
  have hlt := (List.getElem?_eq_some_iff.1 hi).1
  obtain ⟨A, m, c, h⟩ := hf i x (by omega) hi
  exact ⟨A, m, c, h.h0, h.h1, h.h2, h.h3, h.tr, h.ok0, h.ok1⟩
theorem FilX.keep {w w' : World} {cells : List Value} {xs : List DBlame} (h : FilX w cells xs) (hb : Below w.heap.size w w') : FilX w' cells xs := fun i x hi => by
  obtain ⟨A, m, c, a⟩ := h i x hi
  exact ⟨A, m, c, a.h0, a.h1, a.h2, a.h3, (a.tr.keep hb).up hb.size, a.ok0, a.ok1⟩
/-- A row of the call's own that has grown. -/
theorem filX_grown {w w' : World} {g n : Nat} {cells : List Value} {xs : List DBlame} {row : Option Nat} (hf : FilledL w g cells xs n) (hl : xs.length = n) (hg : w.grownBy w' row) (hr : ∀ k, row = some k → k ≤ g) : FilX w' cells xs := fun i x hi => by
  have hlt := (List.getElem?_eq_some_iff.1 hi).1
  obtain ⟨A, m, c, a⟩ := hf i x (by omega) hi
  exact ⟨A, m, c, a.h0, a.h1, a.h2, a.h3, a.tr.keepAt (fun b => g < b) a.far (fun q hq hlt => World.cell?_of_block (w := w) (hg.block q.block hlt (fun e => by have := hr _ e.symm; omega))) hg.size, a.ok0, a.ok1⟩
theorem FilX.app {w : World} {c1 c2 : List Value} {xs ys : List DBlame} (h1 : FilX w c1 xs) (h2 : FilX w c2 ys) (hl : c1.length = xs.length * 4) : FilX w (c1 ++ c2) (xs ++ ys) := by
  intro i x hi
  by_cases hlt : i < xs.length
  · rw [List.getElem?_append_left hlt] at hi
    obtain ⟨A, m, c, a⟩ := h1 i x hi
    refine ⟨A, m, c, ?_, ?_, ?_, ?_, a.tr, a.ok0, a.ok1⟩
    · rw [List.getElem?_append_left (by omega)]; exact a.h0
    · rw [List.getElem?_append_left (by omega)]; exact a.h1
    · rw [List.getElem?_append_left (by omega)]; exact a.h2
    · rw [List.getElem?_append_left (by omega)]; exact a.h3
  · rw [List.getElem?_append_right (by omega)] at hi
    obtain ⟨A, m, c, a⟩ := h2 _ x hi
    refine ⟨A, m, c, ?_, ?_, ?_, ?_, a.tr, a.ok0, a.ok1⟩
    · rw [List.getElem?_append_right (by omega), show i * 4 - c1.length = (i - xs.length) * 4 by omega]; exact a.h0
    · rw [List.getElem?_append_right (by omega), show i * 4 + 1 - c1.length = (i - xs.length) * 4 + 1 by omega]; exact a.h1
    · rw [List.getElem?_append_right (by omega), show i * 4 + 2 - c1.length = (i - xs.length) * 4 + 2 by omega]; exact a.h2
    · rw [List.getElem?_append_right (by omega), show i * 4 + 3 - c1.length = (i - xs.length) * 4 + 3 by omega]; exact a.h3
theorem filX_one {w : World} {cells : List Value} {xs : List DBlame} (h : FilX w cells xs) (hl : cells.length = xs.length * 4) : ∀ u ∈ cells, u.oneCell' = true := by
  intro u hu
  obtain ⟨j, hj, rfl⟩ := List.getElem_of_mem hu
  have hi : j / 4 < xs.length := by omega
  obtain ⟨A, m, c, a⟩ := h (j / 4) _ (List.getElem?_eq_getElem hi)
  have e : cells[j]? = some cells[j] := List.getElem?_eq_getElem hj
  have h4 : j % 4 = 0 ∨ j % 4 = 1 ∨ j % 4 = 2 ∨ j % 4 = 3 := by omega
  rcases h4 with h4 | h4 | h4 | h4
  · have := a.h0; rw [show j / 4 * 4 = j by omega, e] at this; injection this with this; rw [this]; rfl
  · have := a.h1; rw [show j / 4 * 4 + 1 = j by omega, e] at this; injection this with this; rw [this]; rfl
  · have := a.h2; rw [show j / 4 * 4 + 2 = j by omega, e] at this; injection this with this; rw [this]; rfl
  · have := a.h3; rw [show j / 4 * 4 + 3 = j by omega, e] at this; injection this with this; rw [this]; rfl
theorem filX_sl {w : World} {base n c : Nat} {A : Option Addr} {cells : List Value} {xs : List DBlame} (hown : w.ownsRow base 35 4 (.slice A n c) n cells) (hf : FilX w cells xs) (hl : xs.length = n) (hb : n * 48 ≤ reachBytes) : SlC w w.heap.size A n c xs := by
  have hown' := hown
  rcases hown.2 with ⟨hv, rfl⟩ | ⟨g, cap, cur, hv, h1, h2, h3, h4, h5, h6⟩
  · simp only [Value.slice.injEq] at hv
    obtain ⟨rfl, _, rfl⟩ := hv
    have : xs = [] := List.eq_nil_of_length_eq_zero hl
    subst this
    exact SlR.nil_ w _
  · simp only [Value.slice.injEq, true_and] at hv
    obtain ⟨rfl, rfl⟩ := hv
    refine ⟨hl, h3, h4, hb, fun hn => ⟨g, 0, rfl, (Array.getElem?_eq_some_iff.1 h2).1, fun i x hi => ?_⟩⟩
    have hlt := (List.getElem?_eq_some_iff.1 hi).1
    obtain ⟨A, m, c', h⟩ := hf i x hi
    refine ⟨[.int .i64 x.kind, .int .i64 x.num, .bool x.reco, .slice A m c'], rfl, fun j u hj => ?_, ⟨A, m, c', rfl, h.ok0, h.ok1, h.tr⟩⟩
    have hj4 : j < 4 := (List.getElem?_eq_some_iff.1 hj).1
    rw [Nat.zero_add, hown'.cellAt _ (by omega)]
    match j, hj4 with
    | 0, _ => rw [Nat.add_zero, h.h0]; simpa using hj
    | 1, _ => rw [h.h1]; simpa using hj
    | 2, _ => rw [h.h2]; simpa using hj
    | 3, _ => rw [h.h3]; simpa using hj
/-- The cells of a chain that came in. -/
theorem slc_cells {w : World} {A : Option Addr} {n c : Nat} {xs : List DBlame} (h : SlC w w.heap.size A n c xs) : ∃ cells, SrcCells w A n 4 cells ∧ FilX w cells xs := by
  rcases Nat.eq_zero_or_pos n with h0 | h0
  · subst h0
    have : xs = [] := List.eq_nil_of_length_eq_zero h.1
    subst this
    exact ⟨[], ⟨rfl, fun _ => rfl, fun ad _ j u hu => by simp at hu⟩, fun i x hi => by simp at hi⟩
  · obtain ⟨b, off, hA, _, _⟩ := h.2.2.2.2 h0
    have hadd : ∀ j, Addr.add ⟨b, off, none⟩ j = ⟨b, off + j, none⟩ := fun j => by
      unfold Addr.add
      split
      · rename_i h; subst h; rfl
      · rfl
    have hcell : ∀ j, j < n * 4 → ((List.range (n * 4)).map fun j => (w.cell? ⟨b, off + j, none⟩).getD undef)[j]? = some ((w.cell? ⟨b, off + j, none⟩).getD undef) := fun j hj => by
      rw [List.getElem?_map, List.getElem?_range hj]; rfl
    have hall : ∀ i, i < n → ∃ x A0 n0 c0, xs[i]? = some x ∧ w.cell? ⟨b, off + i * 4, none⟩ = some (.int .i64 x.kind) ∧ w.cell? ⟨b, off + i * 4 + 1, none⟩ = some (.int .i64 x.num) ∧ w.cell? ⟨b, off + i * 4 + 2, none⟩ = some (.bool x.reco) ∧ w.cell? ⟨b, off + i * 4 + 3, none⟩ = some (.slice A0 n0 c0) ∧
        SlE w w.heap.size A0 n0 c0 x.trace ∧ (Lit.int .i64 x.kind).wf = true ∧ (Lit.int .i64 x.num).wf = true := fun i hi => by
      obtain ⟨b', off', x, A0, n0, c0, hA', _, q⟩ := SlR.cell4 h hi
      rw [hA] at hA'
      injection hA' with hA'
      injection hA' with e1 e2
      subst e1
      subst e2
      exact ⟨x, A0, n0, c0, q⟩
    refine ⟨(List.range (n * 4)).map fun j => (w.cell? ⟨b, off + j, none⟩).getD undef, ⟨by simp, fun hn => (by rw [hA] at hn; cases hn), fun ad had j u hu => ?_⟩, fun i x hi => ?_⟩
    · rw [hA] at had
      injection had with had
      subst had
      have hj : j < n * 4 := by have := (List.getElem?_eq_some_iff.1 hu).1; simpa using this
      rw [hcell j hj] at hu
      rw [hadd]
      obtain ⟨x, A0, n0, c0, _, q0, q1, q2, q3, _⟩ := hall (j / 4) (by omega)
      have h4 : j % 4 = 0 ∨ j % 4 = 1 ∨ j % 4 = 2 ∨ j % 4 = 3 := by omega
      rcases h4 with h4 | h4 | h4 | h4
      · rw [show off + j / 4 * 4 = off + j by omega] at q0; rw [q0] at hu ⊢; simpa using hu
      · rw [show off + j / 4 * 4 + 1 = off + j by omega] at q1; rw [q1] at hu ⊢; simpa using hu
      · rw [show off + j / 4 * 4 + 2 = off + j by omega] at q2; rw [q2] at hu ⊢; simpa using hu
      · rw [show off + j / 4 * 4 + 3 = off + j by omega] at q3; rw [q3] at hu ⊢; simpa using hu
    · have hi' : i < n := by have := (List.getElem?_eq_some_iff.1 hi).1; rw [h.1] at this; exact this
      obtain ⟨y, A0, n0, c0, hy, q0, q1, q2, q3, hs, k0, k1⟩ := hall i hi'
      rw [hi] at hy
      injection hy with hy
      subst hy
      refine ⟨A0, n0, c0, ?_, ?_, ?_, ?_, hs, k0, k1⟩
      · rw [hcell _ (by omega), q0]; rfl
      · rw [hcell _ (by omega), ← Nat.add_assoc, q1]; rfl
      · rw [hcell _ (by omega), ← Nat.add_assoc, q2]; rfl
      · rw [hcell _ (by omega), ← Nat.add_assoc, q3]; rfl
end Go.Proofs.Ytnnpgljmfjemnaa
