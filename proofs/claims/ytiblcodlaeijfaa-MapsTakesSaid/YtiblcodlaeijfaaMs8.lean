/-
  Tables of sets: the table that bytes begin with, in plain Lean; what stands while it is taken.
-/
import Derived.Test.YtiblcodlaeijfaaMs7
namespace Go.Proofs.Ytiblcodlaeijfaa
open Go.RowKit
set_option linter.unusedSimpArgs false
set_option linter.unusedVariables false
def cellsW (s : W4) : List Value := [.int .u64 (s.a0 : Int), .int .u64 (s.a1 : Int), .int .u64 (s.a2 : Int), .int .u64 (s.a3 : Int)]
def lkO (xs : List W4) (s : W4) : Bool := match xs.getLast? with
  | some t => eqW t s
  | none => false
theorem lkO_nil (s : W4) : lkO [] s = false := rfl
theorem lkO_rep (xs : List W4) (t : W4) (u : Nat) (hu : 0 < u) (s : W4) : lkO (xs ++ List.replicate u t) s = eqW t s := by
  obtain ⟨m, rfl⟩ : ∃ m, u = m + 1 := ⟨u - 1, by omega⟩
  unfold lkO
  rw [List.replicate_succ', ← List.append_assoc, List.getLast?_concat]
/-- The table: of so many sets, the sets so far, the bytes that are left. -/
def tabM (n : Nat) (many : Int) : Nat → List W4 → List Nat → List W4 × List Nat × Nat
  | 0, xs, l => (xs, l, 0)
  | f + 1, xs, l =>
    if xs.length < n then
      if (takeM l 0 (n - xs.length) many (lkO xs)).e = 0 then
        tabM n many f (xs ++ List.replicate (takeM l 0 (n - xs.length) many (lkO xs)).u (takeM l 0 (n - xs.length) many (lkO xs)).s) (takeM l 0 (n - xs.length) many (lkO xs)).l
      else ([], (takeM l 0 (n - xs.length) many (lkO xs)).l, (takeM l 0 (n - xs.length) many (lkO xs)).e)
    else (xs, l, 0)
theorem bitsM_e {l : List Nat} {e : Nat} (h : (bitsM l e).2.2 = 0) : e = 0 := by
  unfold bitsM at h
  split at h
  · assumption
  · exact h
theorem failM_e {e x : Nat} (h : failM e x = 0) : e = 0 ∧ x = 0 := by
  unfold failM at h
  split at h
  · exact ⟨by assumption, h⟩
  · exact ⟨h, by omega⟩
theorem takeM_ok {l : List Nat} {e left : Nat} {n : Int} {lk : W4 → Bool} (h : (takeM l e left n lk).e = 0) : 0 < (takeM l e left n lk).u ∧ (takeM l e left n lk).u ≤ left := by
  have hm : manyM (bitsM l e).1 (bitsM l e).2.2 left = 0 := by
    unfold takeM at h
    dsimp only at h
    split at h
    · split at h
      · exact absurd (failM_e h).2 (by decide)
      · exact bitsM_e (bitsM_e (bitsM_e (bitsM_e h)))
    · exact absurd (failM_e h).2 (by decide)
  unfold manyM at hm
  split at hm
  · exact absurd hm (by decide)
  · rename_i h0
    show 0 < (bitsM l e).1 ∧ (bitsM l e).1 ≤ left
    by_cases h1 : (bitsM l e).1 = 0
    · exact absurd ⟨hm, .inl h1⟩ h0
    · by_cases h2 : left < (bitsM l e).1
      · exact absurd ⟨hm, .inr h2⟩ h0
      · omega
/-- What is known while a table is taken: with what is left the answer comes. -/
structure TabR (n : Nat) (many : Int) (xs : List W4) (l : List Nat) (R : List W4 × List Nat × Nat) : Prop where
  ex : ∃ f, n ≤ xs.length + f ∧ tabM n many f xs l = R
theorem TabR.done {n : Nat} {many : Int} {xs : List W4} {l : List Nat} {R : List W4 × List Nat × Nat} (h : TabR n many xs l R) (hn : ¬ xs.length < n) : R = (xs, l, 0) := by
  obtain ⟨f, h1, h2⟩ := h.ex
  rw [← h2]
  cases f with
  | zero => rfl
  | succ f => unfold tabM; rw [if_neg hn]
theorem TabR.bad {n : Nat} {many : Int} {xs : List W4} {l : List Nat} {R : List W4 × List Nat × Nat} (h : TabR n many xs l R) (hn : xs.length < n) {r : TR} (hr : takeM l 0 (n - xs.length) many (lkO xs) = r) (he : ¬ r.e = 0) : R = ([], r.l, r.e) := by
  obtain ⟨f, h1, h2⟩ := h.ex
  rw [← h2]
  cases f with
  | zero => omega
  | succ f => unfold tabM; rw [if_pos hn, hr, if_neg he]
theorem TabR.next {n : Nat} {many : Int} {xs : List W4} {l : List Nat} {R : List W4 × List Nat × Nat} (h : TabR n many xs l R) (hn : xs.length < n) {r : TR} (hr : takeM l 0 (n - xs.length) many (lkO xs) = r) (he : r.e = 0) : TabR n many (xs ++ List.replicate r.u r.s) r.l R := by
  obtain ⟨f, h1, h2⟩ := h.ex
  have hu : 0 < r.u := by rw [← hr] at he ⊢; exact (takeM_ok he).1
  cases f with
  | zero => omega
  | succ f =>
    refine ⟨f, by rw [List.length_append, List.length_replicate]; omega, ?_⟩
    rw [← h2]
    conv => rhs; unfold tabM
    rw [if_pos hn, hr, if_pos he]
theorem TabR.len {n : Nat} {many : Int} : ∀ (f : Nat) (xs : List W4) (l : List Nat), xs.length ≤ n → (tabM n many f xs l).1.length ≤ n
  | 0, xs, l, h => h
  | f + 1, xs, l, h => by
    unfold tabM
    split
    · split
      · rename_i he
        refine TabR.len f _ _ ?_
        have := takeM_ok he
        rw [List.length_append, List.length_replicate]
        omega
      · exact Nat.zero_le _
    · exact h
theorem CurW.kp {S : Nat → Prop} {w w' : World} {g e : Nat} {l : List Nat} (h : CurW w g l e) (hk : Kp S w w') (hS : ∀ k, S k → g < k) : CurW w' g l e := by
  have ng : ¬ S g := fun hs => by have := hS g hs; omega
  obtain ⟨⟨A, n, c, h0, h1, h2⟩, c1, c2, fz⟩ := h
  exact ⟨⟨A, n, c, hk.cellv h0 ng, slb_kp h1 (Nat.le_refl _) (fun ad ha hs => by have := h2 ad ha; have := hS _ hs; omega) hk, h2⟩, hk.cellv c1 ng, hk.cellv c2 ng, fun j hj => (hk.frozen (p := ⟨g, j, none⟩) (show g < _ from World.block_lt_of_cell? _ _ c1) ng).trans (fz j hj)⟩
/-- What stands while a table is taken: the sets so far, the cursor, the cells of a local variable. -/
structure OutW (w : World) (g : Nat) (A : Option Addr) (k c : Nat) (xs : List W4) (l : List Nat) (e : Nat) (cs : List Value) (W : World) : Prop where
  len : xs.length = k
  own : W.ownsRow (w.heap.size + 1) 41 4 (.slice A k c) k (xs.flatMap cellsW)
  cur : CurW W g l e
  kp : Kp (fun j => j = g) w W
  tc : ∀ q v, cs[q]? = some v → W.cell? ⟨w.heap.size, q, none⟩ = some v
  tf : ∀ q, q < cs.length → W.frozen? ⟨w.heap.size, q, none⟩ = false
  sz : w.heap.size + 1 ≤ W.heap.size
  hg : g < w.heap.size
theorem OutW.call {w : World} {g : Nat} {A : Option Addr} {k c : Nat} {xs : List W4} {l l' : List Nat} {e e' : Nat} {cs : List Value} {W W' : World} (h : OutW w g A k c xs l e cs W) (hc : CurW W' g l' e') (hk : Kp (fun j => j = g) W W') : OutW w g A k c xs l' e' cs W' := by
  have h1 := h.hg
  have h2 := h.sz
  refine ⟨h.len, hk.own h.own fun j hj hg => ?_, hc, h.kp.trans hk, fun q v hq => hk.cellv (h.tc q v hq) (by show ¬ w.heap.size = g; omega), fun q hq => (hk.frozen (p := ⟨w.heap.size, q, none⟩) (by show w.heap.size < _; omega) (by show ¬ w.heap.size = g; omega)).trans (h.tf q hq), by have := hk.size; omega, h1⟩
  have := (h.own.lt _ hj).1
  have hg' : j = g := hg
  omega
theorem OutW.put {w : World} {g : Nat} {A : Option Addr} {k c : Nat} {xs : List W4} {l : List Nat} {e : Nat} {cs : List Value} {W : World} (h : OutW w g A k c xs l e cs W) (q : Nat) (hq : q < cs.length) (v : Value) : OutW w g A k c xs l e (cs.set q v) (W.setCell ⟨w.heap.size, q, none⟩ v) := by
  have h1 := h.hg
  have h2 := h.sz
  have hk : Kp (fun j => j = w.heap.size) W (W.setCell ⟨w.heap.size, q, none⟩ v) := Kp.setCell (S := fun j => j = w.heap.size) (Kp.refl _ _) (p := ⟨w.heap.size, q, none⟩) (fun _ => rfl) _
  refine ⟨h.len, hk.own h.own fun j hj hg => ?_, h.cur.set ⟨w.heap.size, q, none⟩ h1 v, Kp.setCell h.kp (fun hl => absurd hl (by show ¬ w.heap.size < w.heap.size; omega)) _, fun p u hp => ?_, fun p hp => (World.frozen?_setCell _ _ _ _).trans (h.tf p (by simpa using hp)), by simpa [World.setCell] using h2, h1⟩
  · have := (h.own.lt _ hj).1
    have hg' : j = w.heap.size := hg
    omega
  · have hs : ∃ u0, cs[q]? = some u0 := ⟨cs[q], List.getElem?_eq_getElem hq⟩
    by_cases e : p = q
    · subst e
      rw [List.getElem?_set_self hq] at hp
      injection hp with hp
      subst hp
      obtain ⟨u0, hu0⟩ := hs
      exact World.cell?_setCell_same' _ _ _ (by rw [h.tc p u0 hu0]; rfl)
    · rw [List.getElem?_set_ne (fun h => e h.symm)] at hp
      rw [World.cell?_setCell_other _ _ _ _ (by simp; try omega)]
      exact h.tc p u hp
theorem OutW.snoc {w : World} {g : Nat} {A : Option Addr} {k c : Nat} {xs : List W4} {l : List Nat} {e : Nat} {cs : List Value} {W w3 : World} {v' : Value} (s : W4) (h : OutW w g A k c xs l e cs W)
    (hown' : w3.ownsRow (w.heap.size + 1) 41 4 v' (k + 1) (xs.flatMap cellsW ++ cellsW s)) (hgrow : (W.alloc (.cells #[.int .u64 (s.a0 : Int), .int .u64 (s.a1 : Int), .int .u64 (s.a2 : Int), .int .u64 (s.a3 : Int)] 41)).grownBy w3 (Value.slice A k c).ownBlock) :
    ∃ A' c', v' = .slice A' (k + 1) c' ∧ OutW w g A' (k + 1) c' (xs ++ [s]) l e cs w3 := by
  have h1 := h.hg
  have h2 := h.sz
  have hlt : ∀ j, (Value.slice A k c).ownBlock = some j → w.heap.size + 1 ≤ j := fun j hj => (h.own.lt _ hj).1
  have hk : Kp (fun j => (Value.slice A k c).ownBlock = some j) W w3 := ((Kp.refl _ W).alloc _).ofGrown hgrow fun j hj _ => hj
  obtain ⟨A', c', rfl, _⟩ := own_form hown'
  refine ⟨A', c', rfl, by rw [List.length_append, h.len]; rfl, by rw [List.flatMap_append]; simpa using hown', h.cur.kp hk (fun j hj => by have := hlt j hj; omega), h.kp.trans' hk (fun j hj hs => hs.elim id fun hs => by have := hlt j hs; omega), fun q v hq => hk.cellv (h.tc q v hq) (fun hs => by have := hlt _ hs; have h3 : w.heap.size + 1 ≤ w.heap.size := this; omega), fun q hq => (hk.frozen (p := ⟨w.heap.size, q, none⟩) (by show w.heap.size < _; omega) (fun hs => by have := hlt _ hs; have h3 : w.heap.size + 1 ≤ w.heap.size := this; omega)).trans (h.tf q hq), by have := hk.size; omega, h1⟩
theorem info_set : (Try.prog.info? 41).map (fun i => (i.zero, i.size, i.bytes)) = some (some (.agg #[.int .u64 0, .int .u64 0, .int .u64 0, .int .u64 0]), 4, 32) := by kernel_rfl
theorem set_src (w : World) (s : W4) : SrcCells (w.alloc (.cells #[.int .u64 (s.a0 : Int), .int .u64 (s.a1 : Int), .int .u64 (s.a2 : Int), .int .u64 (s.a3 : Int)] 41)) (some ⟨w.heap.size, 0, none⟩) 1 4 (cellsW s) :=
  own_src (World.ownsRow_lit (base := w.heap.size) (e := 41) (size := 4) w #[.int .u64 (s.a0 : Int), .int .u64 (s.a1 : Int), .int .u64 (s.a2 : Int), .int .u64 (s.a3 : Int)] 1 (Nat.le_refl _) (by unfold maxLen; omega) rfl)
theorem set_one (s : W4) : ∀ u ∈ cellsW s, u.oneCell' = true := by
  intro u hu
  simp [cellsW] at hu
  rcases hu with rfl | rfl | rfl | rfl <;> rfl
end Go.Proofs.Ytiblcodlaeijfaa
