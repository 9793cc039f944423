/-
  Tables of sets: whether two tables are the same: of two that hold the same.
-/
import Derived.Test.YtiblcodlaeijfaaMs8
import Derived.BigQuiet
namespace Go.Proofs.Ytiblcodlaeijfaa
open Go.RowKit
set_option linter.unusedSimpArgs false
set_option linter.unusedVariables false
abbrev RowW (w : World) (b : Nat) (A : Option Addr) (k c : Nat) (xs : List W4) : Prop := w.ownsRow b 41 4 (.slice A k c) k (xs.flatMap cellsW)
theorem RowW.at_ {w : World} {b : Nat} {A : Option Addr} {k c : Nat} {xs : List W4} (h : RowW w b A k c xs) (hl : xs.length = k) {m : Nat} (hm : m < k) : ∃ r t, A = some ⟨r, 0, none⟩ ∧ xs[m]? = some t ∧ w.cell? ⟨r, m * 4, none⟩ = some (.int .u64 (t.a0 : Int)) ∧ w.cell? ⟨r, m * 4 + 1, none⟩ = some (.int .u64 (t.a1 : Int)) ∧ w.cell? ⟨r, m * 4 + 2, none⟩ = some (.int .u64 (t.a2 : Int)) ∧ w.cell? ⟨r, m * 4 + 3, none⟩ = some (.int .u64 (t.a3 : Int)) := by
  have ht : xs[m]? = some xs[m] := List.getElem?_eq_getElem (by omega)
  obtain ⟨A2, c2', hv, hA0, hA1⟩ := own_form h
  simp only [Value.slice.injEq, true_and] at hv
  obtain ⟨rfl, rfl⟩ := hv
  cases A with
  | none => exact absurd (hA0 rfl) (by omega)
  | some ad =>
    obtain ⟨g9, rfl, _, _⟩ := hA1 ad rfl
    have key : ∀ j v, (cellsW xs[m])[j]? = some v → w.cell? ⟨g9, m * 4 + j, none⟩ = some v := fun j v hj => by
      have hj4 : j < 4 := by have := (List.getElem?_eq_some_iff.1 hj).1; exact this
      have h9 := h.cellAt (m * 4 + j) (by omega)
      rw [h9]
      exact flatMap_at cellsW (fun _ => rfl) xs m j xs[m] v hj4 ht hj
    exact ⟨g9, xs[m], rfl, ht, key 0 _ rfl, key 1 _ rfl, key 2 _ rfl, key 3 _ rfl⟩
set_option maxRecDepth 100000 in
set_option maxHeartbeats 2000000 in
theorem refSame_any (b b' : Nat) (A A' : Option Addr) (k c c' : Nat) (xs : List W4) (w : World) (h : RowW w b A k c xs) (h' : RowW w b' A' k c' xs) (hl : xs.length = k) (hk : k ≤ 200) :
    Calls Try.prog 7 #[.slice A k c, .slice A' k c'] w fun e w' => e = .returned (.bool true) ∧ ∃ m, w' = w.drewN m := by
  have H := Lib.hid h
  have H' := Lib.hid h'
  have HL := Lib.hid hl
  have t0 : ((k : Int) != (k : Int)) = false := by simp
  clear h h' hl
  go_enter Try.func7, Try.ntmps7
  go_wp2_with fail
  go_loopw [5] (fun i wr => ∃ t m : Nat, i = .int .i64 t ∧ t ≤ k ∧ Hid (wr = w.drewN m)) (fun i _ => k - (intOf i).toNat)
  case atStart => exact ⟨0, 0, rfl, Nat.zero_le _, Lib.hid rfl⟩
  case round =>
    obtain ⟨t, m, rfl, ht, HW⟩ := hrel
    by_cases hlt : t < k
    · obtain ⟨r, s, rfl, hs, a0, a1, a2, a3⟩ := H.out.at_ HL.out hlt
      obtain ⟨r', s', rfl, hs', b0, b1, b2, b3⟩ := H'.out.at_ HL.out hlt
      rw [hs] at hs'
      injection hs' with hs'
      subst hs'
      have q0 : wr.cell? ⟨r, t * 4, none⟩ = some (.int .u64 (s.a0 : Int)) := by rw [HW.out, World.cell?_drewN]; exact a0
      have q1 : wr.cell? ⟨r, t * 4 + 1, none⟩ = some (.int .u64 (s.a1 : Int)) := by rw [HW.out, World.cell?_drewN]; exact a1
      have q2 : wr.cell? ⟨r, t * 4 + 2, none⟩ = some (.int .u64 (s.a2 : Int)) := by rw [HW.out, World.cell?_drewN]; exact a2
      have q3 : wr.cell? ⟨r, t * 4 + 3, none⟩ = some (.int .u64 (s.a3 : Int)) := by rw [HW.out, World.cell?_drewN]; exact a3
      have p0 : wr.cell? ⟨r', t * 4, none⟩ = some (.int .u64 (s.a0 : Int)) := by rw [HW.out, World.cell?_drewN]; exact b0
      have p1 : wr.cell? ⟨r', t * 4 + 1, none⟩ = some (.int .u64 (s.a1 : Int)) := by rw [HW.out, World.cell?_drewN]; exact b1
      have p2 : wr.cell? ⟨r', t * 4 + 2, none⟩ = some (.int .u64 (s.a2 : Int)) := by rw [HW.out, World.cell?_drewN]; exact b2
      have p3 : wr.cell? ⟨r', t * 4 + 3, none⟩ = some (.int .u64 (s.a3 : Int)) := by rw [HW.out, World.cell?_drewN]; exact b3
      have heq : ∀ W, (Op.equalIn 10000 41 (aggU s.a0 s.a1 s.a2 s.a3) (aggU s.a0 s.a1 s.a2 s.a3)).run Try.prog W = .ok true W := fun W => by
        have := eq_arr 9998 s.a0 s.a1 s.a2 s.a3 s.a0 s.a1 s.a2 s.a3 W
        simpa using this
      have hguard := eq_guard
      have ht0 : (0 : Int) ≤ (t : Int) := by omega
      have htk : (t : Int) < (k : Int) := by omega
      have hk200 : (k : Int) ≤ 200 := by omega
      generalize s.a0 = s0 at *
      generalize s.a1 = s1 at *
      generalize s.a2 = s2 at *
      generalize s.a3 = s3 at *
      clear a0 a1 a2 a3 b0 b1 b2 b3 hs
      go_wp2_with fail
      go_quiet (fail)
      clear heq hguard q0 q1 q2 q3 p0 p1 p2 p3
      go_wp2_with fail
      go_roundw
      case rel => exact ⟨t + 1, _, by go_num, by omega, Lib.hid (by rw [HW.out, World.drewN_drewN])⟩
      case measure => simp [intOf]; omega
    · obtain rfl : t = k := by omega
      go_wp2_with fail
      go_ret
      exact ⟨rfl, m, HW.out⟩
end Go.Proofs.Ytiblcodlaeijfaa
