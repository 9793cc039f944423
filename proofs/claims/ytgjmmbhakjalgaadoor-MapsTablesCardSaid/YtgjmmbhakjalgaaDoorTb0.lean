/-
  Tables of sets: rows of sets, cells; the readings of a table handed in (out of r15's texts, and more).
-/
import Derived.Test.YtgjmmbhakjalgaaDoorSlW
import Derived.Test.YtgjmmbhakjalgaaDoorUt1
import Derived.Test.YtgjmmbhakjalgaaDoorMpT
import Derived.Test.YtgjmmbhakjalgaaDoorSl16
import Derived.Test.YtgjmmbhakjalgaaDoorMtN
import Derived.Test.YtgjmmbhakjalgaaDoorGen
import Derived.Test.YtgjmmbhakjalgaaDoorApp
import Derived.Test.YtgjmmbhakjalgaaDoorKp
import Derived.BigQuiet
namespace Go.Proofs.YtgjmmbhakjalgaaDoor
open Go.RowKit
set_option linter.unusedSimpArgs false
set_option linter.unusedVariables false
def cellsW (s : W4) : List Value := [.int .u64 (s.a0 : Int), .int .u64 (s.a1 : Int), .int .u64 (s.a2 : Int), .int .u64 (s.a3 : Int)]
theorem info_set : (Tryd.prog.info? 27).map (fun i => (i.zero, i.size, i.bytes)) = some (some (.agg #[.int .u64 0, .int .u64 0, .int .u64 0, .int .u64 0]), 4, 32) := by kernel_rfl
theorem set_src (w : World) (s : W4) : SrcCells (w.alloc (.cells #[.int .u64 (s.a0 : Int), .int .u64 (s.a1 : Int), .int .u64 (s.a2 : Int), .int .u64 (s.a3 : Int)] 27)) (some ⟨w.heap.size, 0, none⟩) 1 4 (cellsW s) :=
  own_src (World.ownsRow_lit (base := w.heap.size) (e := 27) (size := 4) w #[.int .u64 (s.a0 : Int), .int .u64 (s.a1 : Int), .int .u64 (s.a2 : Int), .int .u64 (s.a3 : Int)] 1 (Nat.le_refl _) (by unfold maxLen; omega) rfl)
theorem set_one (s : W4) : ∀ u ∈ cellsW s, u.oneCell' = true := by
  intro u hu
  simp [cellsW] at hu
  rcases hu with rfl | rfl | rfl | rfl <;> rfl
abbrev RowW (w : World) (b : Nat) (A : Option Addr) (k c : Nat) (xs : List W4) : Prop := w.ownsRow b 27 4 (.slice A k c) k (xs.flatMap cellsW)
theorem RowW.at_ {w : World} {b : Nat} {A : Option Addr} {k c : Nat} {xs : List W4} (h : RowW w b A k c xs) (hl : xs.length = k) {m : Nat} (hm : m < k) : ∃ r t, A = some ⟨r, 0, none⟩ ∧ xs[m]? = some t ∧ w.cell? ⟨r, m * 4, none⟩ = some (.int .u64 (t.a0 : Int)) ∧ w.cell? ⟨r, m * 4 + 1, none⟩ = some (.int .u64 (t.a1 : Int)) ∧ w.cell? ⟨r, m * 4 + 2, none⟩ = some (.int .u64 (t.a2 : Int)) ∧ w.cell? ⟨r, m * 4 + 3, none⟩ = some (.int .u64 (t.a3 : Int)) := by
  have ht : xs[m]? = some xs[m] := List.getElem?_eq_getElem (by omega)
  obtain ⟨A2, c2', hv, hA0, hA1⟩ := own_form h
  simp only [Value.slice.injEq, true_and] at hv
  obtain ⟨rfl, rfl⟩ := hv
  cases A with
  | none => exact absurd (hA0 rfl) (by omega)
  | some ad =>
    obtain ⟨g9, rfl, _, _⟩ := hA1 ad rfl
    have key : ∀ j v, (cellsW xs[m])[j]? = some v → w.cell? ⟨g9, m * 4 + j, none⟩ = some v := fun j v hj => by
      have hj4 : j < 4 := by have := (List.getElem?_eq_some_iff.1 hj).1; exact this
      have h9 := h.cellAt (m * 4 + j) (by omega)
      rw [h9]
      exact flatMap_at cellsW (fun _ => rfl) xs m j xs[m] v hj4 ht hj
    exact ⟨g9, xs[m], rfl, ht, key 0 _ rfl, key 1 _ rfl, key 2 _ rfl, key 3 _ rfl⟩
structure Cells (W : World) (b : Nat) (cs : List Value) : Prop where
  at_ : ∀ q v, cs[q]? = some v → W.cell? ⟨b, q, none⟩ = some v
  fz : ∀ q, q < cs.length → W.frozen? ⟨b, q, none⟩ = false
  lt : b < W.heap.size
theorem Cells.kp {S : Nat → Prop} {W W' : World} {b : Nat} {cs : List Value} (h : Cells W b cs) (hk : Kp S W W') (hS : ¬ S b) : Cells W' b cs :=
  ⟨fun q v hq => hk.cellv (h.at_ q v hq) hS, fun q hq => (hk.frozen (p := ⟨b, q, none⟩) h.lt hS).trans (h.fz q hq), by have := hk.size; have := h.lt; omega⟩
theorem Cells.put {W : World} {b : Nat} {cs : List Value} (h : Cells W b cs) (q : Nat) (hq : q < cs.length) (v : Value) : Cells (W.setCell ⟨b, q, none⟩ v) b (cs.set q v) := by
  refine ⟨fun p u hp => ?_, fun p hp => (World.frozen?_setCell _ _ _ _).trans (h.fz p (by simpa using hp)), by simpa [World.setCell] using h.lt⟩
  by_cases e : p = q
  · subst e
    rw [List.getElem?_set_self hq] at hp
    injection hp with hp
    subst hp
    exact World.cell?_setCell_same' _ _ _ (by rw [h.at_ p cs[p] (List.getElem?_eq_getElem hq)]; rfl)
  · rw [List.getElem?_set_ne (fun h => e h.symm)] at hp
    rw [World.cell?_setCell_other _ _ _ _ (by simp; try omega)]
    exact h.at_ p u hp
theorem Cells.new (W : World) (cs : List Value) (t : TypeId) : Cells (W.alloc (.cells cs.toArray t)) W.heap.size cs :=
  ⟨fun q v hq => (new_cells (w := W) (cs := cs.toArray) (t := t) (Below.refl _ _) q v ((List.getElem?_toArray).trans hq)).1, fun q hq => (new_cells (w := W) (cs := cs.toArray) (t := t) (Below.refl _ _) q cs[q] ((List.getElem?_toArray).trans (List.getElem?_eq_getElem hq))).2, by simp⟩
theorem kp_set (W : World) (b q : Nat) (v : Value) : Kp (fun j => j = b) W (W.setCell ⟨b, q, none⟩ v) := Kp.setCell (S := fun j => j = b) (Kp.refl _ W) (p := ⟨b, q, none⟩) (fun _ => rfl) _
abbrev SlW (w : World) (B : Nat) (A : Option Addr) (n c : Nat) (xs : List W4) : Prop := SlR 4 32 (RC cellsW) w B A n c xs
def ofD (x : DSet) : W4 := ⟨x.w0.toNat, x.w1.toNat, x.w2.toNat, x.w3.toNat⟩
theorem ofD_ok {w : World} {B : Nat} {cs : List Value} {x : DSet} (h : RSet w B cs x) : (ofD x).Ok ∧ cs = cellsW (ofD x) := by
  obtain ⟨e, q0, q1, q2, q3⟩ := h
  have b0 := wf_u q0
  have b1 := wf_u q1
  have b2 := wf_u q2
  have b3 := wf_u q3
  refine ⟨⟨by show x.w0.toNat < _; omega, by show x.w1.toNat < _; omega, by show x.w2.toNat < _; omega, by show x.w3.toNat < _; omega⟩, ?_⟩
  rw [e]
  unfold cellsW ofD
  dsimp only
  rw [Int.toNat_of_nonneg b0.1, Int.toNat_of_nonneg b1.1, Int.toNat_of_nonneg b2.1, Int.toNat_of_nonneg b3.1]
theorem slw_of {w : World} {B : Nat} {A : Option Addr} {n c : Nat} {xs : List DSet} (h : SlR 4 32 RSet w B A n c xs) : SlW w B A n c (xs.map ofD) ∧ ∀ x ∈ xs.map ofD, x.Ok := by
  have hok : ∀ (i : Nat) (x : DSet), xs[i]? = some x → (ofD x).Ok := by
    intro i x hi
    obtain ⟨h1, h2, h3, h4, h5⟩ := h
    have hlt := (List.getElem?_eq_some_iff.1 hi).1
    obtain ⟨b, off, hA, hb, hx⟩ := h5 (by omega)
    obtain ⟨cs, _, _, hr⟩ := hx i x hi
    exact (ofD_ok hr).1
  refine ⟨⟨by simpa using h.1, h.2.1, h.2.2.1, h.2.2.2.1, fun hn => ?_⟩, ?_⟩
  · obtain ⟨b, off, hA, hb, hx'⟩ := h.2.2.2.2 hn
    refine ⟨b, off, hA, hb, fun i x hi => ?_⟩
    rw [List.getElem?_map] at hi
    cases hxi : xs[i]? with
    | none => rw [hxi] at hi; cases hi
    | some y =>
      rw [hxi] at hi
      simp at hi
      subst hi
      obtain ⟨cs, h1, h2, h3⟩ := hx' i y hxi
      exact ⟨cs, h1, h2, (ofD_ok h3).2⟩
  · intro x hx
    obtain ⟨y, hy, rfl⟩ := List.mem_map.1 hx
    obtain ⟨i, hi, rfl⟩ := List.getElem_of_mem hy
    exact hok i _ (List.getElem?_eq_getElem hi)
theorem slw_at {w : World} {B : Nat} {A : Option Addr} {n c : Nat} {xs : List W4} (h : SlW w B A n c xs) {k : Nat} (hk : k < n) : ∃ b off x, A = some ⟨b, off, none⟩ ∧ b < B ∧ xs[k]? = some x ∧ w.cell? ⟨b, off + k * 4, none⟩ = some (.int .u64 (x.a0 : Int)) ∧ w.cell? ⟨b, off + k * 4 + 1, none⟩ = some (.int .u64 (x.a1 : Int)) ∧ w.cell? ⟨b, off + k * 4 + 2, none⟩ = some (.int .u64 (x.a2 : Int)) ∧ w.cell? ⟨b, off + k * 4 + 3, none⟩ = some (.int .u64 (x.a3 : Int)) := by
  obtain ⟨b, off, x, cs, hA, hb, hx, _, hc, hr⟩ := h.at_ hk
  unfold RC at hr
  subst hr
  exact ⟨b, off, x, hA, hb, hx, by simpa using hc 0 _ rfl, by simpa [Nat.add_assoc] using hc 1 _ rfl, by simpa [Nat.add_assoc] using hc 2 _ rfl, by simpa [Nat.add_assoc] using hc 3 _ rfl⟩
theorem SlW.below {B : Nat} {w w' : World} {A : Option Addr} {n c : Nat} {xs : List W4} (h : SlW w B A n c xs) (hb : Below B w w') : SlW w' B A n c xs := SlR.keep (stable_rc _) h fun p hp => hb.cell hp
theorem SlW.on {w w' : World} {A : Option Addr} {n c : Nat} {xs : List W4} (h : SlW w w.heap.size A n c xs) (hb : Below w.heap.size w w') : SlW w' w'.heap.size A n c xs := (h.below hb).more hb.size
/-- What is read of the k-th set, in every world that is not changed below. -/
theorem SlW.get {w : World} {A : Option Addr} {n c : Nat} {xs : List W4} (h : SlW w w.heap.size A n c xs) {k : Nat} (hk : k < n) : ∃ b off x, A = some ⟨b, off, none⟩ ∧ b < w.heap.size ∧ xs[k]? = some x ∧ ∀ W, Below w.heap.size w W → W.cell? ⟨b, off + k * 4, none⟩ = some (.int .u64 (x.a0 : Int)) ∧ W.cell? ⟨b, off + k * 4 + 1, none⟩ = some (.int .u64 (x.a1 : Int)) ∧ W.cell? ⟨b, off + k * 4 + 2, none⟩ = some (.int .u64 (x.a2 : Int)) ∧ W.cell? ⟨b, off + k * 4 + 3, none⟩ = some (.int .u64 (x.a3 : Int)) := by
  obtain ⟨b, off, x, hA, hb, hx, h0, h1, h2, h3⟩ := slw_at h hk
  exact ⟨b, off, x, hA, hb, hx, fun W hW => ⟨(hW.cell hb).trans h0, (hW.cell hb).trans h1, (hW.cell hb).trans h2, (hW.cell hb).trans h3⟩⟩
end Go.Proofs.YtgjmmbhakjalgaaDoor
