/-
  Sorting nothing; comparing numbers; rows of one number (out of Go's library, as they lie in the program's translation).
-/
import Derived.Test.YtpelnfpdchmcpaaOs0
import Derived.WalkMore
namespace Go.Proofs.Ytpelnfpdchmcpaa
open Go.RowKit
set_option linter.unusedSimpArgs false
set_option linter.unusedVariables false
theorem isNaN_any (a : Int) (w : World) : Calls Try.prog 26 #[.int .i64 a] w fun e w' => e = .returned (.bool false) ∧ w = w' := by
  have t : (a != a) = false := by simp
  go_enter Try.func26, Try.ntmps26
  go_wp2_with fail
  go_ret
  exact ⟨rfl, rfl⟩
def cmpM (a b : Int) : Int := if a < b then -1 else if b < a then 1 else 0
set_option maxRecDepth 100000 in
theorem cmp_any (a b : Int) (w : World) : Calls Try.prog 17 #[.int .i64 a, .int .i64 b] w fun e w' => e = .returned (.int .i64 (cmpM a b)) ∧ w = w' := by
  have cA := Lib.hid (isNaN_any a w)
  have cB := Lib.hid (isNaN_any b w)
  by_cases h1 : a < b
  · have hv : Hid (cmpM a b = -1) := Lib.hid (by unfold cmpM; rw [if_pos h1])
    go_enter Try.func17, Try.ntmps17
    go_wp2_with fail
    refine cA.out.mono ?_
    rintro e w' ⟨rfl, rfl⟩
    go_wp2_with fail
    refine cB.out.mono ?_
    rintro e w' ⟨rfl, rfl⟩
    go_wp2_with fail
    go_ret
    exact ⟨by rw [hv.out]; rfl, rfl⟩
  · by_cases h2 : b < a
    · have hv : Hid (cmpM a b = 1) := Lib.hid (by unfold cmpM; rw [if_neg h1, if_pos h2])
      go_enter Try.func17, Try.ntmps17
      go_wp2_with fail
      refine cA.out.mono ?_
      rintro e w' ⟨rfl, rfl⟩
      go_wp2_with fail
      refine cB.out.mono ?_
      rintro e w' ⟨rfl, rfl⟩
      go_wp2_with fail
      go_ret
      exact ⟨by rw [hv.out]; rfl, rfl⟩
    · have hv : Hid (cmpM a b = 0) := Lib.hid (by unfold cmpM; rw [if_neg h1, if_neg h2])
      go_enter Try.func17, Try.ntmps17
      go_wp2_with fail
      refine cA.out.mono ?_
      rintro e w' ⟨rfl, rfl⟩
      go_wp2_with fail
      refine cB.out.mono ?_
      rintro e w' ⟨rfl, rfl⟩
      go_wp2_with fail
      go_ret
      exact ⟨by rw [hv.out]; rfl, rfl⟩
def orM (a b : Int) : Int := if a = 0 then b else a
set_option maxRecDepth 100000 in
theorem or_two (g c : Nat) (a b : Int) (w : World) (h : Cells w g [.int .i64 a, .int .i64 b]) : Calls Try.prog 16 #[.slice (some ⟨g, 0, none⟩) 2 c] w fun e w' => e = .returned (.int .i64 (orM a b)) ∧ w = w' := by
  have c0 := h.at_ 0 _ rfl
  have c1 := h.at_ 1 _ rfl
  by_cases ha : a = 0
  · subst ha
    have hv : Hid (orM 0 b = b) := Lib.hid rfl
    by_cases hb : b = 0
    · subst hb
      go_enter Try.func16, Try.ntmps16
      go_wp2_with fail
      refine wp_loop_rounds 3 ?_
      rw [rounds_succ]
      go_wp2_with fail
      rw [rounds_succ]
      go_wp2_with fail
      rw [rounds_succ]
      go_wp2_with fail
      go_ret
      exact ⟨by rw [hv.out]; rfl, rfl⟩
    · have hb1 : (b != 0) = true := by simpa using hb
      go_enter Try.func16, Try.ntmps16
      go_wp2_with fail
      refine wp_loop_rounds 3 ?_
      rw [rounds_succ]
      go_wp2_with fail
      rw [rounds_succ]
      go_wp2_with fail
      go_ret
      exact ⟨by rw [hv.out]; rfl, rfl⟩
  · have ha1 : (a != 0) = true := by simpa using ha
    have hv : Hid (orM a b = a) := Lib.hid (by unfold orM; rw [if_neg ha])
    go_enter Try.func16, Try.ntmps16
    go_wp2_with fail
    refine wp_loop_rounds 3 ?_
    rw [rounds_succ]
    go_wp2_with fail
    go_ret
    exact ⟨by rw [hv.out]; rfl, rfl⟩
set_option maxRecDepth 100000 in
theorem insertion_nil (w : World) : Calls Try.prog 35 #[.slice none 0 0, .int .i64 0, .int .i64 0] w fun e w' => (∃ v, e = .returned v) ∧ w = w' := by
  go_enter Try.func35, Try.ntmps35
  go_wp2_with fail
  refine wp_loop_rounds 1 ?_
  rw [rounds_succ]
  go_wp2_with fail
  go_end0
  exact ⟨⟨_, rfl⟩, rfl⟩
set_option maxRecDepth 100000 in
set_option maxHeartbeats 1000000 in
theorem pdq_nil (w : World) : Calls Try.prog 31 #[.slice none 0 0, .int .i64 0, .int .i64 0, .int .i64 0] w fun e w' => (∃ v, e = .returned v) ∧ w = w' := by
  have cA := Lib.hid (insertion_nil w)
  go_enter Try.func31, Try.ntmps31
  go_wp2_with fail
  refine wp_loop_rounds 1 ?_
  rw [rounds_succ]
  go_wp2_with fail
  refine cA.out.mono ?_
  rintro e w' ⟨⟨v, rfl⟩, rfl⟩
  go_wp2_with fail
  refine bodyPost_ret (results_none rfl _ _ _) rfl ⟨⟨_, rfl⟩, rfl⟩
set_option maxRecDepth 100000 in
theorem len64_zero (w : World) : Calls Try.prog 45 #[.int .u64 0] w fun e w' => e = .returned (.int .i64 0) ∧ w = w' := by
  go_enter Try.func45, Try.ntmps45
  go_wp2_with fail
  go_ret
  exact ⟨by kernel_rfl, rfl⟩
set_option maxRecDepth 100000 in
theorem len_zero (w : World) : Calls Try.prog 32 #[.int .u64 0] w fun e w' => e = .returned (.int .i64 0) ∧ w = w' := by
  have cA := Lib.hid (len64_zero w)
  go_enter Try.func32, Try.ntmps32
  go_wp2_with fail
  refine cA.out.mono ?_
  rintro e w' ⟨rfl, rfl⟩
  go_wp2_with fail
  go_ret
  exact ⟨rfl, rfl⟩
set_option maxRecDepth 100000 in
theorem sort_nil (w : World) : Calls Try.prog 28 #[.slice none 0 0] w fun e w' => (∃ v, e = .returned v) ∧ w = w' := by
  have cA := Lib.hid (len_zero w)
  have cB := Lib.hid (pdq_nil w)
  go_enter Try.func28, Try.ntmps28
  go_wp2_with fail
  refine cA.out.mono ?_
  rintro e w' ⟨rfl, rfl⟩
  go_wp2_with fail
  refine cB.out.mono ?_
  rintro e w' ⟨⟨v, rfl⟩, rfl⟩
  go_wp2_with fail
  go_end0
  exact ⟨⟨_, rfl⟩, rfl⟩
set_option maxRecDepth 100000 in
theorem ints_nil (w : World) : Calls Try.prog 19 #[.slice none 0 0] w fun e w' => (∃ v, e = .returned v) ∧ w = w' := by
  have cA := Lib.hid (sort_nil w)
  go_enter Try.func19, Try.ntmps19
  go_wp2_with fail
  refine cA.out.mono ?_
  rintro e w' ⟨⟨v, rfl⟩, rfl⟩
  go_wp2_with fail
  go_end0
  exact ⟨⟨_, rfl⟩, rfl⟩
set_option maxRecDepth 100000 in
theorem compact_nil (w : World) : Calls Try.prog 20 #[.slice none 0 0] w fun e w' => e = .returned (.slice none 0 0) ∧ w = w' := by
  go_enter Try.func20, Try.ntmps20
  go_wp2_with fail
  go_ret
  exact ⟨rfl, rfl⟩
set_option maxRecDepth 100000 in
theorem index_nil (a : Int) (w : World) : Calls Try.prog 29 #[.slice none 0 0, .int .i64 a] w fun e w' => e = .returned (.int .i64 (-1)) ∧ w = w' := by
  go_enter Try.func29, Try.ntmps29
  go_wp2_with fail
  refine wp_loop_rounds 1 ?_
  rw [rounds_succ]
  go_wp2_with fail
  go_ret
  exact ⟨rfl, rfl⟩
set_option maxRecDepth 100000 in
theorem index_one (v c : Nat) (w : World) (h : Cells w v [.int .i64 0]) : Calls Try.prog 29 #[.slice (some ⟨v, 0, none⟩) 1 c, .int .i64 0] w fun e w' => e = .returned (.int .i64 0) ∧ w = w' := by
  have c0 := h.at_ 0 _ rfl
  go_enter Try.func29, Try.ntmps29
  go_wp2_with fail
  refine wp_loop_rounds 1 ?_
  rw [rounds_succ]
  go_wp2_with fail
  go_ret
  exact ⟨rfl, rfl⟩
set_option maxRecDepth 100000 in
theorem min_one (v c : Nat) (w : World) (h : Cells w v [.int .i64 0]) : Calls Try.prog 46 #[.slice (some ⟨v, 0, none⟩) 1 c] w fun e w' => e = .returned (.int .i64 0) ∧ w = w' := by
  have c0 := h.at_ 0 _ rfl
  go_enter Try.func46, Try.ntmps46
  go_wp2_with fail
  refine wp_loop_rounds 1 ?_
  rw [rounds_succ]
  go_wp2_with fail
  go_ret
  exact ⟨rfl, rfl⟩
set_option maxRecDepth 100000 in
theorem contains_nil (w : World) : Calls Try.prog 23 #[.slice none 0 0, .int .i64 0] w fun e w' => e = .returned (.bool false) ∧ w = w' := by
  have cA := Lib.hid (index_nil 0 w)
  go_enter Try.func23, Try.ntmps23
  go_wp2_with fail
  refine cA.out.mono ?_
  rintro e w' ⟨rfl, rfl⟩
  go_wp2_with fail
  go_ret
  exact ⟨rfl, rfl⟩
set_option maxRecDepth 100000 in
theorem is_zero (b c : Nat) (w : World) : Calls Try.prog 21 #[.slice (some ⟨b, 0, none⟩) 1 c, .int .i64 0] w fun e w' => e = .returned (.bool true) ∧ w = w' := by
  go_enter Try.func21, Try.ntmps21
  go_wp2_with fail
  go_ret
  exact ⟨rfl, rfl⟩
set_option maxRecDepth 100000 in
set_option maxHeartbeats 4000000 in
theorem done_one (B b q s l h v cv : Nat) (wk : Value) (W : World) (H0 : WS b q s l h wk (.slice (some ⟨v, 0, none⟩) 1 cv) 1 1 1 (-1) W) (HV : Cells W v [.int .i64 0]) (hvq : ¬ v = q) (hvh : ¬ v = h) (hB : B ≤ q ∧ B ≤ h ∧ B ≤ W.heap.size) :
    Calls Try.prog 34 #[.pointer (some ⟨q, 0, none⟩), .int .i64 0] W fun e W' => (∃ v, e = .returned v) ∧ WS b q s l h wk (.slice (some ⟨v, 0, none⟩) 0 cv) 1 1 1 0 W' ∧ Below B W W' := by
  have H := Lib.hid H0
  have HB := Lib.hid hB
  have v0 := HV.at_ 0 _ rfl
  have cI := Lib.hid (index_one v cv W HV)
  have cM := Lib.hid (min_one v cv W HV)
  clear H0 hB
  have c0 := H.out.qc.at_ 0 _ rfl
  have c1 := H.out.qc.at_ 1 _ rfl
  have c2 := H.out.qc.at_ 2 _ rfl
  have c3 := H.out.qc.at_ 3 _ rfl
  have c4 := H.out.qc.at_ 4 _ rfl
  have c5 := H.out.qc.at_ 5 _ rfl
  have c6 := H.out.qc.at_ 6 _ rfl
  have f1 := H.out.qc.fz 1 (by simp)
  have f4 := H.out.qc.fz 4 (by simp)
  have f6 := H.out.qc.fz 6 (by simp)
  have s0 := H.out.sc.at_ 0 _ rfl
  have l0 := H.out.lc.at_ 0 _ rfl
  have h0 := H.out.hc.at_ 0 _ rfl
  have sf := H.out.sc.fz 0 (by simp)
  have lf := H.out.lc.fz 0 (by simp)
  have hf := H.out.hc.fz 0 (by simp)
  have b0 := H.out.bc.at_ 0 _ rfl
  have n1 := H.out.n1
  have n2 := H.out.n2
  have n3 := H.out.n3
  have n4 := H.out.n4
  have n5 := H.out.n5
  have n6 := H.out.n6
  have n7 := H.out.n7
  have n8 := H.out.n8
  have n9 := H.out.n9
  have n0 := H.out.n0
  have m1 : ¬ s = q := fun e => n1 e.symm
  have m2 : ¬ l = q := fun e => n2 e.symm
  have m3 : ¬ h = q := fun e => n3 e.symm
  have m4 : ¬ l = s := fun e => n4 e.symm
  have m5 : ¬ h = s := fun e => n5 e.symm
  have m6 : ¬ h = l := fun e => n6 e.symm
  have m7 : ¬ q = b := fun e => n7 e.symm
  have m8 : ¬ s = b := fun e => n8 e.symm
  have m9 : ¬ l = b := fun e => n9 e.symm
  have m0 : ¬ h = b := fun e => n0 e.symm
  have hhv : ¬ h = v := fun e => hvh e.symm
  have hqv : ¬ q = v := fun e => hvq e.symm
  go_enter Try.func34, Try.ntmps34
  go_wp2_with fail
  refine cI.out.mono ?_
  rintro e w' ⟨rfl, rfl⟩
  go_wp2_with fail
  refine cM.out.mono ?_
  rintro e w' ⟨rfl, rfl⟩
  go_wp2_with fail
  refine wp_loop_rounds 2 ?_
  rw [rounds_succ]
  go_wp2_with fail
  rw [rounds_succ]
  go_wp2_with fail
  go_end0
  have hBB := HB.out
  exact ⟨⟨_, rfl⟩, (H.out.setH 0).setHd _, ((kp_set W h 0 _).below (B := B) (by omega) fun j hj => by have hj' : j = h := hj; omega).trans ((kp_set _ q 4 _).below (by simpa [World.setCell] using hBB.2.2) fun j hj => by have hj' : j = q := hj; omega)⟩
end Go.Proofs.Ytpelnfpdchmcpaa
