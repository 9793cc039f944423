/-
  A cursor: the next number.
-/
import Derived.Test.YtiblcodlaeijfaaMt3
namespace Go.Proofs.Ytiblcodlaeijfaa
open Go.RowKit
set_option linter.unusedSimpArgs false
set_option linter.unusedVariables false
theorem cur_next (g : Nat) (l : List Nat) (w : World) (h : CurW w g l 0) : Calls Try.prog 33 #[.pointer (some ⟨g, 0, none⟩), .func (.func 32) #[.pointer (some ⟨g, 0, none⟩)] #[]] w fun e' w' => e' = .returned (.int .u64 ((bitsM l 0).1 : Int)) ∧ CurW w' g (bitsM l 0).2.1 (bitsM l 0).2.2 ∧ Kp (fun j => j = g) w w' := by
  have cN := Lib.hid (source_number g 0 l w h)
  unfold bitsM
  rw [if_pos rfl]
  rcases hq : getM l with ⟨u, k, er⟩
  rw [hq] at cN
  simp only at cN ⊢
  by_cases he : er = 0
  · subst he
    rw [if_pos rfl]
    clear h hq
    go_enter Try.func33, Try.ntmps33
    go_wp2_with fail
    refine cN.out.mono ?_
    rintro e' w' ⟨rfl, h1, h2⟩
    have F := Lib.hid (And.intro h1 h2)
    clear h1 h2
    go_wp2_with fail
    go_ret
    exact ⟨rfl, F.out⟩
  · rw [if_neg he]
    have hn := get_none l 0 0 (by show (getM l).2.2 ≠ 0; rw [hq]; exact he)
    have hk : (getM l).2.1 = 0 := hn.2
    rw [hq] at hk
    simp only at hk
    subst hk
    have t0 : ((er : Int) != 0) = true := by simp [he]
    clear h hq hn
    go_enter Try.func33, Try.ntmps33
    go_wp2_with fail
    refine cN.out.mono ?_
    rintro e' w1 ⟨rfl, h1, h2⟩
    rw [List.drop_zero] at h1
    have cF := Lib.hid (cur_fail g 0 er l w1 h1)
    have H2 := Lib.hid h2
    clear h1 h2
    go_wp2_with fail
    refine cF.out.mono ?_
    rintro e' w2 ⟨⟨u', rfl⟩, h3, h4⟩
    have h3 : CurW w2 g l er := by unfold failM at h3; rw [if_pos rfl] at h3; exact h3
    have F := Lib.hid (And.intro h3 (H2.out.trans h4))
    clear h3 h4
    go_wp2_with fail
    go_ret
    exact ⟨rfl, F.out⟩
theorem cur_bits (g e : Nat) (l : List Nat) (w : World) (h : CurW w g l e) : Calls Try.prog 26 #[.pointer (some ⟨g, 0, none⟩)] w fun e' w' => e' = .returned (.int .u64 ((bitsM l e).1 : Int)) ∧ CurW w' g (bitsM l e).2.1 (bitsM l e).2.2 ∧ Kp (fun j => j = g) w w' := by
  have cE := Lib.hid (cur_err g e l w h)
  by_cases he : e = 0
  · subst he
    have cN := Lib.hid (cur_next g l w h)
    clear h
    go_enter Try.func26, Try.ntmps26
    go_wp2_with fail
    refine cE.out.mono ?_
    rintro e' w' ⟨rfl, rfl⟩
    go_wp2_with fail
    refine cN.out.mono ?_
    rintro e' w' ⟨rfl, h1, h2⟩
    have F := Lib.hid (And.intro h1 h2)
    clear h1 h2
    go_wp2_with fail
    go_ret
    exact ⟨rfl, F.out⟩
  · have t0 : ((e : Int) != 0) = true := by simp [he]
    have F : Hid (CurW w g l e ∧ Kp (fun j => j = g) w w) := Lib.hid ⟨h, Kp.refl _ _⟩
    unfold bitsM
    rw [if_neg he]
    clear h
    go_enter Try.func26, Try.ntmps26
    go_wp2_with fail
    refine cE.out.mono ?_
    rintro e' w' ⟨rfl, rfl⟩
    go_wp2_with fail
    go_ret
    exact ⟨rfl, F.out⟩
end Go.Proofs.Ytiblcodlaeijfaa
