/-
  Panics: a copy of a chain.
-/
import Derived.Test.YtnnpgljmfjemnaaBlame4
import Derived.Laws.OwnMore
import Derived.Laws.MakeOwn
namespace Go.Proofs.Ytnnpgljmfjemnaa
open Go.RowKit
set_option linter.unusedSimpArgs false
set_option linter.unusedVariables false

theorem info_blame : (Try.prog.info? 35).map (fun i => (i.zero, i.size, i.bytes)) = some (some (.agg #[.int .i64 0, .int .i64 0, .bool false, .slice none 0 0]), 4, 48) := by kernel_rfl
abbrev SlC (w : World) (B : Nat) (A : Option Addr) (n c : Nat) (xs : List DBlame) : Prop := SlR 4 48 RBlame w B A n c xs

/-- The i-th of a chain that lies at g. -/
structure At (w : World) (g : Nat) (cells : List Value) (i : Nat) (x : DBlame) (A : Option Addr) (m c : Nat) : Prop where
  h0 : cells[i * 4]? = some (.int .i64 x.kind)
  h1 : cells[i * 4 + 1]? = some (.int .i64 x.num)
  h2 : cells[i * 4 + 2]? = some (.bool x.reco)
  h3 : cells[i * 4 + 3]? = some (.slice A m c)
  tr : SlE w w.heap.size A m c x.trace
  far : ∀ ad, A = some ad → ad.block ≠ g
  ok0 : (Lit.int .i64 x.kind).wf = true
  ok1 : (Lit.int .i64 x.num).wf = true
def Filled (w : World) (g : Nat) (cells : List Value) (xs : List DBlame) (k : Nat) : Prop := ∀ i x, i < k → xs[i]? = some x → ∃ A m c, At w g cells i x A m c
theorem Filled.start (w : World) (g : Nat) (cells : List Value) (xs : List DBlame) : Filled w g cells xs 0 := fun i x h => absurd h (by omega)
/-- What is done elsewhere lets an entry stand. -/
theorem At.keep {w w' : World} {g : Nat} {cells cells' : List Value} {i : Nat} {x : DBlame} {A : Option Addr} {m c : Nat} (h : At w g cells i x A m c)
    (hc : ∀ j, j < 4 → cells'[i * 4 + j]? = cells[i * 4 + j]?) (hk : ∀ q : Addr, q.block ≠ g → q.block < w.heap.size → w'.cell? q = w.cell? q) (hs : w.heap.size ≤ w'.heap.size) : At w' g cells' i x A m c :=
  ⟨by have := hc 0 (by omega); rw [Nat.add_zero] at this; rw [this]; exact h.h0, by rw [hc 1 (by omega)]; exact h.h1, by rw [hc 2 (by omega)]; exact h.h2, by rw [hc 3 (by omega)]; exact h.h3,
   h.tr.keepAt (fun b => b ≠ g) h.far hk hs, h.far, h.ok0, h.ok1⟩

theorem filled_sl {w : World} {base g n : Nat} {cells : List Value} {xs : List DBlame} (hown : w.ownsRow base 35 4 (.slice (some ⟨g, 0, none⟩) n n) n cells) (hf : Filled w g cells xs n) (hl : xs.length = n) (hm : n ≤ maxLen) (hb : n * 48 ≤ reachBytes) : SlC w w.heap.size (some ⟨g, 0, none⟩) n n xs := by
  refine ⟨hl, Nat.le_refl _, hm, hb, fun hn => ⟨g, 0, rfl, (hown.lt _ rfl).2, fun i x hi => ?_⟩⟩
  have hlt := (List.getElem?_eq_some_iff.1 hi).1
  obtain ⟨A, m, c, h⟩ := hf i x (by omega) hi
  refine ⟨[.int .i64 x.kind, .int .i64 x.num, .bool x.reco, .slice A m c], rfl, fun j u hj => ?_, ⟨A, m, c, rfl, h.ok0, h.ok1, h.tr⟩⟩
  have hj4 : j < 4 := (List.getElem?_eq_some_iff.1 hj).1
  rw [Nat.zero_add, hown.cellAt _ (by omega)]
  match j, hj4 with
  | 0, _ => rw [Nat.add_zero, h.h0]; simpa using hj
  | 1, _ => rw [h.h1]; simpa using hj
  | 2, _ => rw [h.h2]; simpa using hj
  | 3, _ => rw [h.h3]; simpa using hj

/-- Four cells are laid, then the fourth anew. -/
def lay4 (cells : List Value) (k : Nat) (a b c d : Value) : List Value := (((cells.set (k * 4) a).set (k * 4 + 1) b).set (k * 4 + 2) c).set (k * 4 + 3) d
theorem lay4_in {cells : List Value} {n k : Nat} (hl : cells.length = n * 4) (hk : k < n) (a b c d : Value) :
    (lay4 cells k a b c d)[k * 4]? = some a ∧ (lay4 cells k a b c d)[k * 4 + 1]? = some b ∧ (lay4 cells k a b c d)[k * 4 + 2]? = some c ∧ (lay4 cells k a b c d)[k * 4 + 3]? = some d := by
  unfold lay4
  refine ⟨?_, ?_, ?_, ?_⟩ <;> simp [List.getElem?_set, hl] <;> omega
theorem lay4_out {cells : List Value} {k i j : Nat} (hi : i < k) (hj : j < 4) (a b c d : Value) : (lay4 cells k a b c d)[i * 4 + j]? = cells[i * 4 + j]? := by
  unfold lay4
  rw [List.getElem?_set_ne (by omega), List.getElem?_set_ne (by omega), List.getElem?_set_ne (by omega), List.getElem?_set_ne (by omega)]
theorem lay4_len (cells : List Value) (k : Nat) (a b c d : Value) : (lay4 cells k a b c d).length = cells.length := by simp [lay4]

def IsChain (n : Nat) (xs : List DBlame) (w : World) (e : Ending) (w' : World) : Prop := ∃ g cells, e = .returned (.slice (some ⟨g, 0, none⟩) n n) ∧ w'.ownsRow w.heap.size 35 4 (.slice (some ⟨g, 0, none⟩) n n) n cells ∧ Filled w' g cells xs n ∧ Below w.heap.size w w'

theorem below_set {B : Nat} {a w : World} {b o : Nat} (h : Below B a w) (hb : B ≤ b) (v : Value) : Below B a (w.setCell ⟨b, o, none⟩ v) := h.setCell (p := ⟨b, o, none⟩) hb v
/-- The round's end. -/
theorem copy_step {w wr w2 : World} {n k : Nat} {cells : List Value} {xs : List DBlame} {x : DBlame} {A A0 : Option Addr} {m c m0 c0 : Nat} (hk : k < n) (hx : xs[k]? = some x)
    (hg : w.heap.size < wr.heap.size)
    (hown : wr.ownsRow w.heap.size 35 4 (.slice (some ⟨w.heap.size, 0, none⟩) n n) n cells) (hf : Filled wr w.heap.size cells xs k) (hbw : Below w.heap.size w wr)
    {w1 : World} (hw1 : w1 = (((wr.setCell ⟨w.heap.size, k * 4, none⟩ (.int .i64 x.kind)).setCell ⟨w.heap.size, k * 4 + 1, none⟩ (.int .i64 x.num)).setCell ⟨w.heap.size, k * 4 + 2, none⟩ (.bool x.reco)).setCell ⟨w.heap.size, k * 4 + 3, none⟩ (.slice A0 m0 c0))
    (hs : SlE w2 w2.heap.size A m c x.trace) (hb : Below w1.heap.size w1 w2) (hat : ∀ ad, A = some ad → w1.heap.size ≤ ad.block) (ok0 : (Lit.int .i64 x.kind).wf = true) (ok1 : (Lit.int .i64 x.num).wf = true) :
    ∃ cells', (w2.setCell ⟨w.heap.size, k * 4 + 3, none⟩ (.slice A m c)).ownsRow w.heap.size 35 4 (.slice (some ⟨w.heap.size, 0, none⟩) n n) n cells' ∧ Filled (w2.setCell ⟨w.heap.size, k * 4 + 3, none⟩ (.slice A m c)) w.heap.size cells' xs (k + 1) ∧
      Below w.heap.size w (w2.setCell ⟨w.heap.size, k * 4 + 3, none⟩ (.slice A m c)) := by
  have hl : cells.length = n * 4 := hown.1
  have hz : w1.heap.size = wr.heap.size := by rw [hw1]; simp
  have hown1 : w1.ownsRow w.heap.size 35 4 (.slice (some ⟨w.heap.size, 0, none⟩) n n) n (lay4 cells k (.int .i64 x.kind) (.int .i64 x.num) (.bool x.reco) (.slice A0 m0 c0)) := by
    rw [hw1]
    exact ((((hown.stored _ _).1.stored _ _).1.stored _ _).1.stored _ _).1
  have hown2 := own_keep hown1 hb
  have hown3 := (hown2.stored (k * 4 + 3) (.slice A m c)).1
  have e3 : (lay4 cells k (.int .i64 x.kind) (.int .i64 x.num) (.bool x.reco) (.slice A0 m0 c0)).set (k * 4 + 3) (.slice A m c) = lay4 cells k (.int .i64 x.kind) (.int .i64 x.num) (.bool x.reco) (.slice A m c) := by
    unfold lay4
    rw [List.set_set]
  rw [e3] at hown3
  have hcell : ∀ q : Addr, q.block ≠ w.heap.size → q.block < wr.heap.size → (w2.setCell ⟨w.heap.size, k * 4 + 3, none⟩ (.slice A m c)).cell? q = wr.cell? q := by
    intro q hq1 hq2
    rw [World.cell?_setCell_far _ _ _ _ (by show w.heap.size ≠ q.block; exact Ne.symm hq1), hb.cell (by omega), hw1]
    rw [World.cell?_setCell_far _ _ _ _ (by show w.heap.size ≠ q.block; exact Ne.symm hq1), World.cell?_setCell_far _ _ _ _ (by show w.heap.size ≠ q.block; exact Ne.symm hq1), World.cell?_setCell_far _ _ _ _ (by show w.heap.size ≠ q.block; exact Ne.symm hq1), World.cell?_setCell_far _ _ _ _ (by show w.heap.size ≠ q.block; exact Ne.symm hq1)]
  refine ⟨_, hown3, fun i y hi hy => ?_, ?_⟩
  · by_cases hik : i = k
    · subst hik
      rw [hx] at hy
      injection hy with hy
      subst hy
      obtain ⟨a0, a1, a2, a3⟩ := lay4_in hl hk (.int .i64 x.kind) (.int .i64 x.num) (.bool x.reco) (.slice A m c)
      refine ⟨A, m, c, a0, a1, a2, a3, hs.keepAt (fun b => b ≠ w.heap.size) (fun ad had => by have := hat ad had; omega) (fun q hq1 _ => ?_) (by simp), fun ad had => by have := hat ad had; omega, ok0, ok1⟩
      rw [World.cell?_setCell_far _ _ _ _ (by show w.heap.size ≠ q.block; exact Ne.symm hq1)]
    · obtain ⟨A', m', c', h⟩ := hf i y (by omega) hy
      refine ⟨A', m', c', h.keep (fun j hj => lay4_out (by omega) hj _ _ _ _) hcell ?_⟩
      have := hb.size
      simp
      omega
  · refine below_set ?_ (Nat.le_refl _) _
    refine Below.trans ?_ (hb.mono (by omega))
    rw [hw1]
    exact below_set (below_set (below_set (below_set hbw (Nat.le_refl _) _) (Nat.le_refl _) _) (Nat.le_refl _) _) (Nat.le_refl _) _

theorem SlR.cell4 {w : World} {B : Nat} {A : Option Addr} {n c : Nat} {xs : List DBlame} (h : SlC w B A n c xs) {i : Nat} (hi : i < n) :
    ∃ b off x A0 n0 c0, A = some ⟨b, off, none⟩ ∧ b < B ∧ xs[i]? = some x ∧ w.cell? ⟨b, off + i * 4, none⟩ = some (.int .i64 x.kind) ∧ w.cell? ⟨b, off + i * 4 + 1, none⟩ = some (.int .i64 x.num) ∧ w.cell? ⟨b, off + i * 4 + 2, none⟩ = some (.bool x.reco) ∧ w.cell? ⟨b, off + i * 4 + 3, none⟩ = some (.slice A0 n0 c0) ∧
      SlE w B A0 n0 c0 x.trace ∧ (Lit.int .i64 x.kind).wf = true ∧ (Lit.int .i64 x.num).wf = true := by
  obtain ⟨b, off, x, cs, hA, hb, hx, _, hc, hr⟩ := h.at_ hi
  obtain ⟨A0, n0, c0, rfl, h1, h2, h3⟩ := hr
  exact ⟨b, off, x, A0, n0, c0, hA, hb, hx, by simpa using hc 0 _ rfl, by simpa [Nat.add_assoc] using hc 1 _ rfl, by simpa [Nat.add_assoc] using hc 2 _ rfl, by simpa [Nat.add_assoc] using hc 3 _ rfl, h3, h1, h2⟩
end Go.Proofs.Ytnnpgljmfjemnaa
