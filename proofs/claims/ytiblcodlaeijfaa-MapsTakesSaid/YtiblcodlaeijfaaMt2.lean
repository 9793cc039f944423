/-
  A cursor: what it is; its error, what is left, a failure, some bytes taken.
-/
import Derived.Test.YtiblcodlaeijfaaMt1
import Derived.Test.YtiblcodlaeijfaaKp
import Derived.Test.YtiblcodlaeijfaaGen
namespace Go.Proofs.Ytiblcodlaeijfaa
open Go.RowKit
set_option linter.unusedSimpArgs false
set_option linter.unusedVariables false
def bitsM (l : List Nat) (e : Nat) : Nat × List Nat × Nat := if e = 0 then (if (getM l).2.2 = 0 then ((getM l).1, l.drop (getM l).2.1, 0) else (0, l, (getM l).2.2)) else (0, l, e)
def failM (e x : Nat) : Nat := if e = 0 then x else e
def leftM (l : List Nat) (e : Nat) : Nat := if e = 0 then l.length else 0
theorem slb_kp {w w' : World} {T : Nat → Prop} {B : Nat} {A : Option Addr} {n c : Nat} {l : List Nat} (h : SlB w B A n c l) (hB : B ≤ w.heap.size) (ho : ∀ ad, A = some ad → ¬ T ad.block) (hk : Kp T w w') : SlB w' w'.heap.size A n c l := by
  obtain ⟨⟨h1, h2, h3, h4, h5⟩, hb⟩ := h
  refine ⟨⟨h1, h2, h3, h4, fun hn => ?_⟩, hb⟩
  obtain ⟨b, off, rfl, hbl, hx⟩ := h5 hn
  refine ⟨b, off, rfl, by have := hk.size; omega, fun i x hi => ?_⟩
  obtain ⟨cs, e1, e2, e3⟩ := hx i x hi
  exact ⟨cs, e1, fun j u hj => hk.cellv (e2 j u hj) (show ¬ T b from ho ⟨b, off, none⟩ rfl), e3⟩
theorem slb_drop {w : World} {B : Nat} {A : Option Addr} {n c : Nat} {l : List Nat} (h : SlB w B A n c l) {k : Nat} (hk : k ≤ n) :
    ∃ A2, sliced A k n c 1 = .slice A2 (n - k) (c - k) ∧ SlB w B A2 (n - k) (c - k) (l.drop k) ∧ ∀ ad, A2 = some ad → ∃ ad0, A = some ad0 ∧ ad.block = ad0.block := by
  obtain ⟨⟨h1, h2, h3, h4, h5⟩, hb⟩ := h
  refine ⟨_, rfl, ⟨⟨by simp; omega, by omega, by omega, by omega, fun hp => ?_⟩, fun b hm => hb b (List.mem_of_mem_drop hm)⟩, fun ad had => ?_⟩
  · obtain ⟨b, off, rfl, hb, hx⟩ := h5 (by omega)
    rw [if_neg (by omega)]
    refine ⟨b, off + k * 1, by simp [addr_add], hb, fun i x hi => ?_⟩
    rw [List.getElem?_drop] at hi
    obtain ⟨cs, e1, e2, e3⟩ := hx (k + i) x hi
    refine ⟨cs, e1, fun j u hj => ?_, e3⟩
    have := e2 j u hj
    rw [show off + ((k + i) * 1 + j) = off + k * 1 + (i * 1 + j) by omega] at this
    exact this
  · split at had
    · exact ⟨ad, had, rfl⟩
    · cases A with
      | none => cases had
      | some ad0 =>
        injection had with had
        exact ⟨ad0, rfl, by rw [← had]; simp [Addr.add]; split <;> simp⟩
structure CurW (w : World) (g : Nat) (l : List Nat) (e : Nat) : Prop where
  ex : ∃ A n c, w.cell? ⟨g, 0, none⟩ = some (.slice A n c) ∧ SlB w w.heap.size A n c l ∧ ∀ ad, A = some ad → ad.block < g
  c1 : w.cell? ⟨g, 1, none⟩ = some (.bool true)
  c2 : w.cell? ⟨g, 2, none⟩ = some (.int .i64 (e : Int))
  fz : ∀ j, j < 3 → w.frozen? ⟨g, j, none⟩ = false
theorem CurW.on {w w' : World} {g e : Nat} {l : List Nat} (h : CurW w g l e) (hb : Kp (fun _ => False) w w') : CurW w' g l e := by
  obtain ⟨⟨A, n, c, h0, h1, h2⟩, c1, c2, fz⟩ := h
  exact ⟨⟨A, n, c, hb.cellv h0 id, slb_kp h1 (Nat.le_refl _) (fun _ _ => id) hb, h2⟩, hb.cellv c1 id, hb.cellv c2 id, fun j hj => (hb.frozen (p := ⟨g, j, none⟩) (show g < _ from World.block_lt_of_cell? _ _ c1) id).trans (fz j hj)⟩
/-- A turn of a block of the caller's own that lies above the cursor. -/
theorem CurW.set {w : World} {g e : Nat} {l : List Nat} (h : CurW w g l e) (p : Addr) (hp : g < p.block) (v : Value) : CurW (w.setCell p v) g l e := by
  have hk : Kp (fun j => j = p.block) w (w.setCell p v) := Kp.setCell (S := fun j => j = p.block) (Kp.refl _ w) (fun _ => rfl) _
  have ng : ¬ g = p.block := by omega
  obtain ⟨⟨A, n, c, h0, h1, h2⟩, c1, c2, fz⟩ := h
  exact ⟨⟨A, n, c, hk.cellv h0 ng, slb_kp h1 (Nat.le_refl _) (fun ad ha => by have := h2 ad ha; show ¬ ad.block = p.block; omega) hk, h2⟩, hk.cellv c1 ng, hk.cellv c2 ng, fun j hj => (World.frozen?_setCell _ _ _ _).trans (fz j hj)⟩
theorem cur_err (g e : Nat) (l : List Nat) (w : World) (h : CurW w g l e) : Calls Try.prog 9 #[.pointer (some ⟨g, 0, none⟩)] w fun e' w' => e' = .returned (.int .i64 (e : Int)) ∧ w = w' := by
  obtain ⟨_, c1, c2, _⟩ := h
  go_enter Try.func9, Try.ntmps9
  go_wp2
  go_ret
  exact ⟨rfl, rfl⟩
theorem cur_left (g e : Nat) (l : List Nat) (w : World) (h : CurW w g l e) : Calls Try.prog 10 #[.pointer (some ⟨g, 0, none⟩)] w fun e' w' => e' = .returned (.int .i64 (leftM l e : Nat)) ∧ w = w' := by
  have cE := Lib.hid (cur_err g e l w h)
  obtain ⟨⟨A, n, c, h0, ⟨hsl, _⟩, _⟩, c1, c2, _⟩ := h
  have hn : l.length = n := hsl.1
  unfold leftM
  by_cases he : e = 0
  · subst he
    rw [if_pos rfl, hn]
    clear hsl
    go_enter Try.func10, Try.ntmps10
    go_wp2_with fail
    refine cE.out.mono ?_
    rintro e' w' ⟨rfl, rfl⟩
    go_wp2_with fail
    go_ret
    exact ⟨rfl, rfl⟩
  · rw [if_neg he]
    have t0 : ((e : Int) != 0) = true := by simp [he]
    clear hsl
    go_enter Try.func10, Try.ntmps10
    go_wp2_with fail
    refine cE.out.mono ?_
    rintro e' w' ⟨rfl, rfl⟩
    go_wp2_with fail
    go_ret
    exact ⟨rfl, rfl⟩
theorem CurW.err {w : World} {g e x : Nat} {l : List Nat} (h : CurW w g l e) : CurW (w.setCell ⟨g, 2, none⟩ (.int .i64 (x : Int))) g l x := by
  have hk : Kp (fun j => j = g) w (w.setCell ⟨g, 2, none⟩ (.int .i64 (x : Int))) := Kp.setCell (S := fun j => j = g) (Kp.refl _ w) (p := ⟨g, 2, none⟩) (fun _ => rfl) _
  obtain ⟨⟨A, n, c, h0, h1, h2⟩, c1, c2, fz⟩ := h
  refine ⟨⟨A, n, c, by simp [go_sem, h0, c2], slb_kp h1 (Nat.le_refl _) (fun ad ha (hh : ad.block = g) => by have := h2 ad ha; omega) hk, h2⟩, by simp [go_sem, c1, c2], by simp [go_sem, c2], fun j hj => by rw [World.frozen?_setCell]; exact fz j hj⟩
theorem cur_fail (g e x : Nat) (l : List Nat) (w : World) (h : CurW w g l e) : Calls Try.prog 27 #[.pointer (some ⟨g, 0, none⟩), .int .i64 (x : Int)] w fun e' w' => (∃ u, e' = .returned u) ∧ CurW w' g l (failM e x) ∧ Kp (fun j => j = g) w w' := by
  have cE := Lib.hid (cur_err g e l w h)
  have f2 := h.fz 2 (by decide)
  have c2 := h.c2
  unfold failM
  by_cases he : e = 0
  · subst he
    rw [if_pos rfl]
    have F := Lib.hid (And.intro (h.err (x := x)) (Kp.setCell (S := fun j => j = g) (Kp.refl _ w) (p := ⟨g, 2, none⟩) (fun _ => rfl) (.int .i64 (x : Int))))
    clear h
    go_enter Try.func27, Try.ntmps27
    go_wp2_with fail
    refine cE.out.mono ?_
    rintro e' w' ⟨rfl, rfl⟩
    go_wp2_with fail
    go_end0
    exact ⟨⟨_, rfl⟩, F.out⟩
  · rw [if_neg he]
    have t0 : ((e : Int) == 0) = false := by simp [he]
    have F := Lib.hid (And.intro h (Kp.refl (fun j => j = g) w))
    clear h
    go_enter Try.func27, Try.ntmps27
    go_wp2_with fail
    refine cE.out.mono ?_
    rintro e' w' ⟨rfl, rfl⟩
    go_wp2_with fail
    go_end0
    exact ⟨⟨_, rfl⟩, F.out⟩
end Go.Proofs.Ytiblcodlaeijfaa
