/-
  A block's cells as one word; what is owned, read, made anew. Over any program.
-/
import Derived.Test.YthfdmpcnebjkjaaRi
import Derived.Laws.OwnMore
namespace Go.Proofs.Ythfdmpcnebjkjaa
open Go.RowKit
set_option linter.unusedSimpArgs false
set_option linter.unusedVariables false
theorem bl_one {w : World} (o : Obj) : Below w.heap.size w (w.alloc o) := (Below.refl _ _).alloc (Nat.le_refl _) _
structure Cells (W : World) (b : Nat) (cs : List Value) : Prop where
  at_ : ∀ q v, cs[q]? = some v → W.cell? ⟨b, q, none⟩ = some v
  fz : ∀ q, q < cs.length → W.frozen? ⟨b, q, none⟩ = false
  lt : b < W.heap.size
theorem Cells.kp {S : Nat → Prop} {W W' : World} {b : Nat} {cs : List Value} (h : Cells W b cs) (hk : Kp S W W') (hS : ¬ S b) : Cells W' b cs :=
  ⟨fun q v hq => hk.cellv (h.at_ q v hq) hS, fun q hq => (hk.frozen (p := ⟨b, q, none⟩) h.lt hS).trans (h.fz q hq), by have := hk.size; have := h.lt; omega⟩
theorem Cells.put {W : World} {b : Nat} {cs : List Value} (h : Cells W b cs) (q : Nat) (hq : q < cs.length) (v : Value) : Cells (W.setCell ⟨b, q, none⟩ v) b (cs.set q v) := by
  refine ⟨fun p u hp => ?_, fun p hp => (World.frozen?_setCell _ _ _ _).trans (h.fz p (by simpa using hp)), by simpa [World.setCell] using h.lt⟩
  by_cases e : p = q
  · subst e
    rw [List.getElem?_set_self hq] at hp
    injection hp with hp
    subst hp
    exact World.cell?_setCell_same' _ _ _ (by rw [h.at_ p cs[p] (List.getElem?_eq_getElem hq)]; rfl)
  · rw [List.getElem?_set_ne (fun h => e h.symm)] at hp
    rw [World.cell?_setCell_other _ _ _ _ (by simp; try omega)]
    exact h.at_ p u hp
theorem Cells.new (W : World) (cs : List Value) (t : TypeId) : Cells (W.alloc (.cells cs.toArray t)) W.heap.size cs :=
  ⟨fun q v hq => (new_cells (w := W) (cs := cs.toArray) (t := t) (Below.refl _ _) q v ((List.getElem?_toArray).trans hq)).1, fun q hq => (new_cells (w := W) (cs := cs.toArray) (t := t) (Below.refl _ _) q cs[q] ((List.getElem?_toArray).trans (List.getElem?_eq_getElem hq))).2, by simp⟩
theorem kp_set (W : World) (b q : Nat) (v : Value) : Kp (fun j => j = b) W (W.setCell ⟨b, q, none⟩ v) := Kp.setCell (S := fun j => j = b) (Kp.refl _ W) (p := ⟨b, q, none⟩) (fun _ => rfl) _
theorem Cells.far {W : World} {b : Nat} {cs : List Value} (h : Cells W b cs) {g q : Nat} (hg : ¬ b = g) (v : Value) : Cells (W.setCell ⟨g, q, none⟩ v) b cs := h.kp (kp_set W g q v) hg
theorem Cells.on {W W' : World} {b : Nat} {cs : List Value} (h : Cells W b cs) (hb : Below W.heap.size W W') : Cells W' b cs := h.kp ((Kp.refl (fun _ => False) W).ofBelow hb) id
theorem Cells.own {W : World} {base g k c : Nat} {e : TypeId} {sz : Nat} {xs : List Value} (h : W.ownsRow base e sz (.slice (some ⟨g, 0, none⟩) k c) k xs) : Cells W g xs :=
  ⟨fun q v hq => by rw [h.cellAt q (by have := (List.getElem?_eq_some_iff.1 hq).1; have := h.1; omega)]; exact hq, fun q _ => h.frozenAt q, (h.lt g rfl).2⟩
theorem info_int : (Try.prog.info? 3).map (fun i => (i.zero, i.size, i.bytes)) = some (some (.int .i64 0), 1, 8) := by kernel_rfl
theorem row_src (w : World) (cs : Array Value) (t : TypeId) (sz : Nat) (h : cs.toList.length = 1 * sz) : SrcCells (w.alloc (.cells cs t)) (some ⟨w.heap.size, 0, none⟩) 1 sz cs.toList :=
  own_src (World.ownsRow_lit (base := w.heap.size) (e := t) (size := sz) w cs 1 (Nat.le_refl _) (by unfold maxLen; omega) (by simpa using h))
theorem own_less {base b' : Nat} {e : TypeId} {size : Nat} {v : Value} {n : Nat} {xs : List Value} {w : World} (h : w.ownsRow base e size v n xs) (hb : b' ≤ base) : w.ownsRow b' e size v n xs := by
  refine ⟨h.1, ?_⟩
  rcases h.2 with h2 | ⟨g, cap, cur, a, b, c⟩
  · exact .inl h2
  · exact .inr ⟨g, cap, cur, a, Nat.le_trans hb b, c⟩
theorem cells_new_at {W : World} {b : Nat} (h : W.heap.size = b) (cs : List Value) (t : TypeId) : Cells (W.alloc (.cells cs.toArray t)) b cs := by
  subst h
  exact Cells.new W cs t
theorem own_at {W : World} {g : Nat} (h : W.heap.size = g) (base : Nat) (hb : base ≤ g) (cs : List Value) (e : TypeId) (sz n : Nat) (hn : n ≤ maxLen) (hl : cs.length = n * sz) : (W.alloc (.cells cs.toArray e)).ownsRow base e sz (.slice (some ⟨g, 0, none⟩) n n) n cs := by
  subst h
  have := World.ownsRow_lit (base := base) (e := e) (size := sz) W cs.toArray n hb hn (by simpa using hl)
  simpa using this
theorem add_zero_at (b j : Nat) : Addr.add ⟨b, 0, none⟩ j = ⟨b, j, none⟩ := by
  unfold Addr.add
  split
  · rename_i h0
    subst h0
    rfl
  · simp
theorem src_of_cells {W : World} {b : Nat} {cs : List Value} (h : Cells W b cs) (m sz : Nat) (hl : cs.length = m * sz) : SrcCells W (some ⟨b, 0, none⟩) m sz cs :=
  ⟨hl, (fun e => (by cases e)), fun ad had j u hu => by
    injection had with had
    subst had
    rw [add_zero_at]
    exact h.at_ j u hu⟩
theorem slr_of_cells {α : Type} {f : α → List Value} {sz bytes : Nat} (hf : ∀ x, (f x).length = sz) {W : World} {b B : Nat} {xs : List α} {n : Nat} (h : Cells W b (xs.flatMap f)) (hn : xs.length = n) (hB : b < B) (hm : n ≤ maxLen) (hr : n * bytes ≤ reachBytes) : SlR sz bytes (RC f) W B (some ⟨b, 0, none⟩) n n xs := by
  refine ⟨hn, Nat.le_refl _, hm, hr, fun _ => ⟨b, 0, rfl, hB, fun i x hi => ⟨f x, hf x, fun j u hj => ?_, rfl⟩⟩⟩
  have hj2 : j < sz := by rw [← hf x]; exact (List.getElem?_eq_some_iff.1 hj).1
  rw [Nat.zero_add]
  exact h.at_ _ u (flatMap_at f hf xs i j x u hj2 hi hj)
theorem own_blk {g : Nat} {n c k : Nat} (h : (Value.slice (some ⟨g, 0, none⟩) n c).ownBlock = some k) : k = g := by
  unfold Value.ownBlock at h
  injection h with h
  exact h.symm
end Go.Proofs.Ythfdmpcnebjkjaa
