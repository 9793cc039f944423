/-
  Whether two runs are the same, but for their steps: by the program.
-/
import Derived.Test.YtpladpmkpchndaaEv12
namespace Go.Proofs.Ytpladpmkpchndaa
open Go.RowKit
set_option linter.unusedSimpArgs false
set_option linter.unusedVariables false

theorem lay2 {w w1 w2 : World} {B : Nat} {cs1 cs2 : Array Value} {t1 t2 : TypeId} (hw1 : w.alloc (.cells cs1 t1) = w1) (hw2 : w1.alloc (.cells cs2 t2) = w2) :
    Below w.heap.size w w2 ∧ (∀ W, Below w2.heap.size w2 W → ∀ i v, cs1[i]? = some v → W.cell? ⟨w.heap.size, i, none⟩ = some v) ∧ (∀ W, Below w2.heap.size w2 W → ∀ i v, cs2[i]? = some v → W.cell? ⟨w.heap.size + 1, i, none⟩ = some v) := by
  have hz1 : w1.heap.size = w.heap.size + 1 := by rw [← hw1]; simp
  have hz2 : w2.heap.size = w.heap.size + 2 := by rw [← hw2]; simp; omega
  refine ⟨?_, fun W hW i v hv => ?_, fun W hW i v hv => ?_⟩
  · rw [← hw2]
    refine Below.alloc ?_ (by omega) _
    rw [← hw1]
    exact (Below.refl _ _).alloc (Nat.le_refl _) _
  · refine box_cells w cs1 t1 W ?_ i v hv
    rw [hw1]
    refine Below.trans ?_ (hW.mono (by omega))
    rw [← hw2]
    exact (Below.refl _ _).alloc (by omega) _
  · rw [← hz1]
    refine box_cells w1 cs2 t2 W ?_ i v hv
    rw [hw2]
    exact hW.mono (by omega)

set_option maxRecDepth 100000 in
set_option maxHeartbeats 4000000 in
theorem runs_any (a b : DRun) (A0 : Option Addr) (n0 c0 : Nat) (A1 : Option Addr) (n1 c1 : Nat) (A2 : Option Addr) (n2 c2 : Nat) (D0 : Option Addr) (m0 d0 : Nat) (D1 : Option Addr) (m1 d1 : Nat) (D2 : Option Addr) (m2 d2 : Nat) (B : Nat) (w : World) (ha0 : SlV w B A0 n0 c0 a.events) (ha1 : SlN w B A1 n1 c1 a.results) (ha2 : SlP w B A2 n2 c2 a.chain) (hb0 : SlV w B D0 m0 d0 b.events) (hb1 : SlN w B D1 m1 d1 b.results) (hb2 : SlP w B D2 m2 d2 b.chain) (hB : B ≤ w.heap.size) :
    Calls Try.prog 68 #[runV A0 n0 c0 a.fin A1 n1 c1 A2 n2 c2 a.steps, runV D0 m0 d0 b.fin D1 m1 d1 D2 m2 d2 b.steps] w fun e w' => e = .returned (.bool (runEq a b)) ∧ Below w.heap.size w w' := by
  have cE : ∀ W, Below w.heap.size w W → Hid (Calls Try.prog 61 #[.slice A0 n0 c0, .slice D0 m0 d0] W fun e w' => e = .returned (.bool (begL eqV a.events b.events)) ∧ Below W.heap.size W w') := fun W hW => begins_any B A0 D0 n0 m0 c0 d0 _ _ W (ha0.keep (hW.mono hB)) (hb0.keep (hW.mono hB)) (Nat.le_trans hB hW.size)
  have cC : ∀ W, Below w.heap.size w W → Hid (Calls Try.prog 97 #[.slice A2 n2 c2, .slice D2 m2 d2, .func (.func 98) #[] #[]] W fun e w' => e = .returned (.bool (begL eqP a.chain b.chain)) ∧ Below W.heap.size W w') := fun W hW => equalBl_any B A2 D2 n2 m2 c2 d2 _ _ W (ha2.keep (hW.mono hB)) (hb2.keep (hW.mono hB)) (Nat.le_trans hB hW.size)
  have cI : ∀ W, Below w.heap.size w W → Hid (Calls Try.prog 100 #[.slice A1 n1 c1, .slice D1 m1 d1] W fun e w' => e = .returned (.bool (eqIs a.results b.results)) ∧ ∃ q, w' = W.drewN q) := fun W hW => eqInts_any B B A1 D1 n1 m1 c1 d1 _ _ W (ha1.keep (hW.mono hB)) (hb1.keep (hW.mono hB))
  have t1 : ((n0 : Int) == (m0 : Int)) = decide (a.events.length = b.events.length) := by rw [ha0.1, hb0.1, Bool.eq_iff_iff]; simp; omega
  have t2 : ((n2 : Int) == (m2 : Int)) = decide (a.chain.length = b.chain.length) := by rw [ha2.1, hb2.1, Bool.eq_iff_iff]; simp; omega
  unfold runEq
  obtain ⟨e1, h1⟩ : ∃ v, begL eqV a.events b.events = v := ⟨_, rfl⟩
  obtain ⟨e2, h2⟩ : ∃ v, begL eqP a.chain b.chain = v := ⟨_, rfl⟩
  obtain ⟨e3, h3⟩ : ∃ v, eqIs a.results b.results = v := ⟨_, rfl⟩
  obtain ⟨x1, h4⟩ : ∃ v, decide (a.events.length = b.events.length) = v := ⟨_, rfl⟩
  obtain ⟨x2, h5⟩ : ∃ v, decide (a.chain.length = b.chain.length) = v := ⟨_, rfl⟩
  rw [h1] at cE ⊢
  rw [h2] at cC ⊢
  rw [h3] at cI ⊢
  rw [h4] at t1 ⊢
  rw [h5] at t2 ⊢
  obtain ⟨fa, h6⟩ : ∃ v, a.fin = v := ⟨_, rfl⟩
  obtain ⟨fb, h7⟩ : ∃ v, b.fin = v := ⟨_, rfl⟩
  obtain ⟨sa, h8⟩ : ∃ v, a.steps = v := ⟨_, rfl⟩
  obtain ⟨sb, h9⟩ : ∃ v, b.steps = v := ⟨_, rfl⟩
  obtain ⟨x3, t3⟩ : ∃ v, (fa == fb) = v := ⟨_, rfl⟩
  rw [h6, h7, h8, h9, t3]
  clear h1 h2 h3 h4 h5 h6 h7 h8 h9 ha0 ha1 ha2 hb0 hb1 hb2 hB
  obtain ⟨w1, hw1⟩ : ∃ w1, w.alloc (.cells #[.slice A0 n0 c0, .int .i64 fa, .slice A1 n1 c1, .slice A2 n2 c2, .int .i64 sa] 103) = w1 := ⟨_, rfl⟩
  obtain ⟨w2, hw2⟩ : ∃ w2, w1.alloc (.cells #[.slice D0 m0 d0, .int .i64 fb, .slice D1 m1 d1, .slice D2 m2 d2, .int .i64 sb] 103) = w2 := ⟨_, rfl⟩
  have hl := lay2 (B := 0) hw1 hw2
  have HW : Hid ((w.alloc (.cells #[.slice A0 n0 c0, .int .i64 fa, .slice A1 n1 c1, .slice A2 n2 c2, .int .i64 sa] 103)).alloc (.cells #[.slice D0 m0 d0, .int .i64 fb, .slice D1 m1 d1, .slice D2 m2 d2, .int .i64 sb] 103) = w2) := Lib.hid (by rw [hw1, hw2])
  have HB := Lib.hid hl.1
  have EA := Lib.hid hl.2.1
  have EB := Lib.hid hl.2.2
  clear hl hw1 hw2
  have hS2 : Below w2.heap.size w2 w2 := Below.refl _ _
  have ca0 := EA.out w2 hS2 0 (.slice A0 n0 c0) rfl
  have ca1 := EA.out w2 hS2 1 (.int .i64 fa) rfl
  have ca2 := EA.out w2 hS2 2 (.slice A1 n1 c1) rfl
  have ca3 := EA.out w2 hS2 3 (.slice A2 n2 c2) rfl
  have cb0 := EB.out w2 hS2 0 (.slice D0 m0 d0) rfl
  have cb1 := EB.out w2 hS2 1 (.int .i64 fb) rfl
  have cb2 := EB.out w2 hS2 2 (.slice D1 m1 d1) rfl
  have cb3 := EB.out w2 hS2 3 (.slice D2 m2 d2) rfl
  go_enter Try.func68, Try.ntmps68
  cases x1
  case false =>
    cases x2
    case false =>
      go_wp2_with fail
      try rw [HW.out]
      go_ret
      exact ⟨by simp, bl_trans HB.out HB.out.size hS2⟩
    case true =>
      go_wp2_with fail
      try rw [HW.out]
      refine Calls.mono (cC _ (bl_trans HB.out HB.out.size hS2)).out ?_
      rintro e w3 ⟨rfl, hb3⟩
      have hS3 := bl_trans hS2 hS2.size hb3
      clear hb3
      clear ca0 cb0 ca1 cb1 ca2 cb2 ca3 cb3
      have ca0 := EA.out w3 hS3 0 (.slice A0 n0 c0) rfl
      have ca1 := EA.out w3 hS3 1 (.int .i64 fa) rfl
      have ca2 := EA.out w3 hS3 2 (.slice A1 n1 c1) rfl
      have ca3 := EA.out w3 hS3 3 (.slice A2 n2 c2) rfl
      have cb0 := EB.out w3 hS3 0 (.slice D0 m0 d0) rfl
      have cb1 := EB.out w3 hS3 1 (.int .i64 fb) rfl
      have cb2 := EB.out w3 hS3 2 (.slice D1 m1 d1) rfl
      have cb3 := EB.out w3 hS3 3 (.slice D2 m2 d2) rfl
      go_wp2_with fail
      try rw [HW.out]
      go_ret
      exact ⟨by simp, bl_trans HB.out HB.out.size hS3⟩
  case true =>
    go_wp2_with fail
    try rw [HW.out]
    refine Calls.mono (cE _ (bl_trans HB.out HB.out.size hS2)).out ?_
    rintro e w3 ⟨rfl, hb3⟩
    have hS3 := bl_trans hS2 hS2.size hb3
    clear hb3
    clear ca0 cb0 ca1 cb1 ca2 cb2 ca3 cb3
    have ca0 := EA.out w3 hS3 0 (.slice A0 n0 c0) rfl
    have ca1 := EA.out w3 hS3 1 (.int .i64 fa) rfl
    have ca2 := EA.out w3 hS3 2 (.slice A1 n1 c1) rfl
    have ca3 := EA.out w3 hS3 3 (.slice A2 n2 c2) rfl
    have cb0 := EB.out w3 hS3 0 (.slice D0 m0 d0) rfl
    have cb1 := EB.out w3 hS3 1 (.int .i64 fb) rfl
    have cb2 := EB.out w3 hS3 2 (.slice D1 m1 d1) rfl
    have cb3 := EB.out w3 hS3 3 (.slice D2 m2 d2) rfl
    cases e1
    case false =>
      cases x2
      case false =>
        go_wp2_with fail
        try rw [HW.out]
        go_ret
        exact ⟨by simp, bl_trans HB.out HB.out.size hS3⟩
      case true =>
        go_wp2_with fail
        try rw [HW.out]
        refine Calls.mono (cC _ (bl_trans HB.out HB.out.size hS3)).out ?_
        rintro e w4 ⟨rfl, hb4⟩
        have hS4 := bl_trans hS3 hS3.size hb4
        clear hb4
        clear ca0 cb0 ca1 cb1 ca2 cb2 ca3 cb3
        have ca0 := EA.out w4 hS4 0 (.slice A0 n0 c0) rfl
        have ca1 := EA.out w4 hS4 1 (.int .i64 fa) rfl
        have ca2 := EA.out w4 hS4 2 (.slice A1 n1 c1) rfl
        have ca3 := EA.out w4 hS4 3 (.slice A2 n2 c2) rfl
        have cb0 := EB.out w4 hS4 0 (.slice D0 m0 d0) rfl
        have cb1 := EB.out w4 hS4 1 (.int .i64 fb) rfl
        have cb2 := EB.out w4 hS4 2 (.slice D1 m1 d1) rfl
        have cb3 := EB.out w4 hS4 3 (.slice D2 m2 d2) rfl
        go_wp2_with fail
        try rw [HW.out]
        go_ret
        exact ⟨by simp, bl_trans HB.out HB.out.size hS4⟩
    case true =>
      cases x2
      case false =>
        go_wp2_with fail
        try rw [HW.out]
        go_ret
        exact ⟨by simp, bl_trans HB.out HB.out.size hS3⟩
      case true =>
        go_wp2_with fail
        try rw [HW.out]
        refine Calls.mono (cC _ (bl_trans HB.out HB.out.size hS3)).out ?_
        rintro e w4 ⟨rfl, hb4⟩
        have hS4 := bl_trans hS3 hS3.size hb4
        clear hb4
        clear ca0 cb0 ca1 cb1 ca2 cb2 ca3 cb3
        have ca0 := EA.out w4 hS4 0 (.slice A0 n0 c0) rfl
        have ca1 := EA.out w4 hS4 1 (.int .i64 fa) rfl
        have ca2 := EA.out w4 hS4 2 (.slice A1 n1 c1) rfl
        have ca3 := EA.out w4 hS4 3 (.slice A2 n2 c2) rfl
        have cb0 := EB.out w4 hS4 0 (.slice D0 m0 d0) rfl
        have cb1 := EB.out w4 hS4 1 (.int .i64 fb) rfl
        have cb2 := EB.out w4 hS4 2 (.slice D1 m1 d1) rfl
        have cb3 := EB.out w4 hS4 3 (.slice D2 m2 d2) rfl
        cases e2
        case false =>
          go_wp2_with fail
          try rw [HW.out]
          go_ret
          exact ⟨by simp, bl_trans HB.out HB.out.size hS4⟩
        case true =>
          cases x3
          case false =>
            go_wp2_with fail
            try rw [HW.out]
            go_ret
            exact ⟨by simp, bl_trans HB.out HB.out.size hS4⟩
          case true =>
            go_wp2_with fail
            try rw [HW.out]
            refine Calls.mono (cI _ (bl_trans HB.out HB.out.size hS4)).out ?_
            rintro e w5 ⟨rfl, q, rfl⟩
            have hS5 := below_drewN' hS4 q
            go_wp2_with fail
            try rw [HW.out]
            go_ret
            exact ⟨by simp, bl_trans HB.out HB.out.size hS5⟩
end Go.Proofs.Ytpladpmkpchndaa
