/-
  A cursor: some bytes taken; a number; the next one.
-/
import Derived.Test.YtiblcodlaeijfaaMt2
namespace Go.Proofs.Ytiblcodlaeijfaa
open Go.RowKit
set_option linter.unusedSimpArgs false
set_option linter.unusedVariables false
theorem CurW.cut {w : World} {g e k : Nat} {l : List Nat} {A : Option Addr} {n c : Nat} (h : CurW w g l e) (h0 : w.cell? ⟨g, 0, none⟩ = some (.slice A n c)) (hk : k ≤ n) (V : Value) (hV : V = sliced A k n c 1) : CurW (w.setCell ⟨g, 0, none⟩ V) g (l.drop k) e ∧ Kp (fun j => j = g) w (w.setCell ⟨g, 0, none⟩ V) := by
  have hkp : Kp (fun j => j = g) w (w.setCell ⟨g, 0, none⟩ V) := Kp.setCell (S := fun j => j = g) (Kp.refl _ w) (p := ⟨g, 0, none⟩) (fun _ => rfl) _
  obtain ⟨⟨A', n', c', h0', h1, h2⟩, c1, c2, fz⟩ := h
  rw [h0] at h0'
  injection h0' with h0'
  injection h0' with e1 e2 e3
  subst e1 e2 e3
  obtain ⟨A2, e2, s2, b2⟩ := slb_drop h1 hk
  have hno : ∀ ad, A2 = some ad → ad.block < g := fun ad had => by
    obtain ⟨ad0, h9, h8⟩ := b2 ad had
    rw [h8]
    exact h2 ad0 h9
  refine ⟨⟨⟨A2, _, _, by rw [hV, e2]; simp [go_sem, h0], slb_kp s2 (Nat.le_refl _) (fun ad had (hh : ad.block = g) => by have := hno ad had; omega) hkp, hno⟩, by simp [go_sem, c1, h0], by simp [go_sem, c2, h0], fun j hj => by rw [World.frozen?_setCell]; exact fz j hj⟩, hkp⟩
theorem source_take (g e k : Nat) (l : List Nat) (w : World) (h : CurW w g l e) (hk : k ≤ l.length) : Calls Try.prog 36 #[.pointer (some ⟨g, 0, none⟩), .int .i64 (k : Int)] w fun e' w' => (∃ u, e' = .returned u) ∧ CurW w' g (l.drop k) e ∧ Kp (fun j => j = g) w w' := by
  obtain ⟨A, n, c, h0, ⟨hsl, hby⟩, h2⟩ := h.ex
  have hn : l.length = n := hsl.1
  have hc : n ≤ c := hsl.2.1
  have hcm := hsl.2.2.1
  unfold maxLen at hcm
  have f0 := h.fz 0 (by decide)
  have F := Lib.hid (h.cut h0 (k := k) (by omega))
  have hkn : (k : Int) ≤ n := by omega
  have hkc : (k : Int) ≤ c := by omega
  clear h hsl hby h2
  by_cases hck : c = k
  · go_enter Try.func36, Try.ntmps36
    go_wp2_with fail
    go_ret
    exact ⟨⟨_, rfl⟩, F.out _ (by simp [sliced, hck])⟩
  · go_enter Try.func36, Try.ntmps36
    go_wp2_with fail
    go_ret
    exact ⟨⟨_, rfl⟩, F.out _ (by simp [sliced, hck])⟩
theorem getM_k (l : List Nat) (hb : ∀ b ∈ l, b < 256) : (getM l).2.1 ≤ l.length := by
  rcases hq : getM l with ⟨u, k, er⟩
  by_cases he : er = 0
  · subst he
    exact (get_just hb hq).2.1
  · have := get_none l 0 0 (by show (getM l).2.2 ≠ 0; rw [hq]; exact he)
    have h2 : (getM l).2.1 = 0 := this.2
    rw [hq] at h2
    simp only at h2 ⊢
    omega
theorem source_number (g e : Nat) (l : List Nat) (w : World) (h : CurW w g l e) : Calls Try.prog 32 #[.pointer (some ⟨g, 0, none⟩)] w fun e' w' => e' = .returned (.tuple #[.int .u64 ((getM l).1 : Int), .int .i64 ((getM l).2.2 : Int)]) ∧ CurW w' g (l.drop (getM l).2.1) e ∧ Kp (fun j => j = g) w w' := by
  obtain ⟨A, n, c, h0, hsl, h2⟩ := h.ex
  have cG := Lib.hid (uvar_Get_any _ A n c l w hsl)
  have cT := Lib.hid (source_take g e (getM l).2.1 l w h (getM_k l hsl.2))
  unfold getV at cG
  rcases hq : getM l with ⟨u, k, er⟩
  rw [hq] at cG cT
  simp only at cG cT ⊢
  clear h hsl h2 hq
  go_enter Try.func32, Try.ntmps32
  go_wp2_with fail
  refine cG.out.mono ?_
  rintro e' w' ⟨rfl, rfl⟩
  go_wp2_with fail
  refine cT.out.mono ?_
  rintro e' w' ⟨⟨u', rfl⟩, h1, h2⟩
  have F := Lib.hid (And.intro h1 h2)
  clear h1 h2
  go_wp2_with fail
  go_ret2
  exact ⟨rfl, F.out⟩
end Go.Proofs.Ytiblcodlaeijfaa
