/-
  Rows of the call's own whose elements have several cells: what they read as; small words. Over any program.
-/
import Derived.Test.YthfdmpcnebjkjaaApp
namespace Go.Proofs.Ythfdmpcnebjkjaa
open Go.RowKit
set_option linter.unusedSimpArgs false
set_option linter.unusedVariables false

theorem addr_add (b off j : Nat) : Addr.add ⟨b, off, none⟩ j = ⟨b, off + j, none⟩ := by
  unfold Addr.add
  split
  · rename_i h; subst h; rfl
  · rfl
theorem flatMap_len {α : Type} {sz : Nat} (f : α → List Value) (hf : ∀ x, (f x).length = sz) (l : List α) : (l.flatMap f).length = l.length * sz := by
  induction l with
  | nil => simp
  | cons a l ih => rw [List.flatMap_cons, List.length_append, hf, ih, List.length_cons, Nat.succ_mul, Nat.add_comm]
theorem flatMap_at {α : Type} {sz : Nat} (f : α → List Value) (hf : ∀ x, (f x).length = sz) : ∀ (l : List α) (i j : Nat) (x : α) (u : Value), j < sz → l[i]? = some x → (f x)[j]? = some u → (l.flatMap f)[i * sz + j]? = some u
  | [], i, j, x, u, _, h, _ => by simp at h
  | a :: l, 0, j, x, u, hj, h, hu => by
    simp at h
    subst h
    rw [List.flatMap_cons, Nat.zero_mul, Nat.zero_add, List.getElem?_append_left (by rw [hf]; exact hj)]
    exact hu
  | a :: l, i + 1, j, x, u, hj, h, hu => by
    rw [List.flatMap_cons, List.getElem?_append_right (by rw [hf, Nat.succ_mul]; omega)]
    have e : (i + 1) * sz + j - (f a).length = i * sz + j := by rw [hf, Nat.succ_mul]; omega
    rw [e]
    exact flatMap_at f hf l i j x u hj (by simpa using h) hu
theorem flatMap_snoc {α : Type} (f : α → List Value) (xs : List α) (k : Nat) (x : α) (h : xs[k]? = some x) : (xs.take k).flatMap f ++ f x = (xs.take (k + 1)).flatMap f := by
  rw [List.take_add_one, h]
  simp
theorem take_snoc' {α : Type} (xs : List α) (k : Nat) (x : α) (h : xs[k]? = some x) : xs.take k ++ [x] = xs.take (k + 1) := by
  rw [List.take_add_one, h]
  simp
/-- What the call itself made, read as a slice. -/
theorem SlR.of_ownN {α : Type} {sz : Nat} {f : α → List Value} (hf : ∀ x, (f x).length = sz) (hpos : 0 < sz) {w : World} {base : Nat} {e : TypeId} {bytes : Nat} {A : Option Addr} {n c : Nat} {xs : List α} (h : w.ownsRow base e sz (.slice A n c) n (xs.flatMap f)) (hb : n * bytes ≤ reachBytes) :
    SlR sz bytes (RC f) w w.heap.size A n c xs := by
  have hl : xs.length = n := by
    have h1 := h.1
    rw [flatMap_len f hf] at h1
    exact Nat.eq_of_mul_eq_mul_right hpos h1
  have h' := h
  rcases h.2 with ⟨hv, h0⟩ | ⟨g, cap, cur, hv, h1, h2, h3, h4, h5, h6⟩
  · simp only [Value.slice.injEq] at hv
    obtain ⟨rfl, rfl, rfl⟩ := hv
    have : xs = [] := List.eq_nil_of_length_eq_zero hl
    subst this
    exact SlR.nil_ w _
  · simp only [Value.slice.injEq, true_and] at hv
    obtain ⟨rfl, rfl⟩ := hv
    refine ⟨hl, h3, h4, hb, fun hn => ⟨g, 0, rfl, (Array.getElem?_eq_some_iff.1 h2).1, fun i x hi => ⟨f x, hf x, fun j u hj => ?_, rfl⟩⟩⟩
    have hj2 : j < sz := by rw [← hf x]; exact (List.getElem?_eq_some_iff.1 hj).1
    have hi2 := (List.getElem?_eq_some_iff.1 hi).1
    have hlt : i * sz + j < n * sz := by
      have : (i + 1) * sz ≤ n * sz := Nat.mul_le_mul_right _ (by omega)
      rw [Nat.succ_mul] at this
      omega
    have := h'.cellAt (i * sz + j) hlt
    rw [Nat.zero_add, this]
    exact flatMap_at f hf xs i j x u hj2 hi hj
theorem SlR.empty {α : Type} {sz bytes : Nat} {R : Rd α} {w : World} {B : Nat} {A : Option Addr} {c : Nat} {xs : List α} (h : SlR sz bytes R w B A 0 c xs) : xs = [] := List.eq_nil_of_length_eq_zero h.1
theorem SlR.none_ {α : Type} {sz bytes : Nat} {R : Rd α} {w : World} {B : Nat} {n c : Nat} {xs : List α} (h : SlR sz bytes R w B none n c xs) : n = 0 := by
  rcases Nat.eq_zero_or_pos n with h0 | h0
  · exact h0
  · obtain ⟨b, off, hA, _⟩ := h.2.2.2.2 h0
    cases hA
theorem own_nil_of {w : World} {base : Nat} {e : TypeId} {size : Nat} {n c : Nat} {xs : List Value} (h : w.ownsRow base e size (.slice none n c) n xs) : n = 0 := by
  rcases h.2 with ⟨hv, h0⟩ | ⟨g, cap, cur, hv, _⟩
  · simp only [Value.slice.injEq, true_and] at hv
    exact hv.1
  · simp at hv
theorem bl_trans {B : Nat} {a b c : World} (h : Below B a b) (hB : B ≤ b.heap.size) (k : Below b.heap.size b c) : Below B a c := h.trans (k.mono hB)
end Go.Proofs.Ythfdmpcnebjkjaa
