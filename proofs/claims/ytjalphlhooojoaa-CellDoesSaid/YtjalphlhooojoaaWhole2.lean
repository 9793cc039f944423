/-
  Numbers of 64 bits: the document's way, and the laws.
-/
import Derived.Test.YtjalphlhooojoaaWhole
namespace Go.Proofs.Ytjalphlhooojoaa
open Go.RowKit
set_option linter.unusedSimpArgs false
set_option linter.unusedVariables false

set_option maxRecDepth 100000 in
set_option maxHeartbeats 2000000 in
theorem ref_Two_any (op a b : Int) (ha : In64 a) (w : World) :
    Calls Try.prog 23 #[.int .i64 op, .int .i64 a, .int .i64 b] w (Pure (twoV op a b) w) := by
  rcases op_two op with rfl | rfl | rfl | rfl | rfl | rfl | rfl | h
  · go_enter Try.func23, Try.ntmps23
    go_wp2
    go_ret2
    exact ⟨rfl, 0, rfl⟩
  · go_enter Try.func23, Try.ntmps23
    go_wp2
    go_ret2
    exact ⟨rfl, 0, rfl⟩
  · go_enter Try.func23, Try.ntmps23
    go_wp2
    go_ret2
    exact ⟨rfl, 0, rfl⟩
  · by_cases hb : b = 0
    · subst hb
      go_enter Try.func23, Try.ntmps23
      go_wp2
      go_ret2
      exact ⟨rfl, 0, rfl⟩
    · by_cases hb1 : b = -1
      · subst hb1
        have hv : Hid (twoV 9 a (-1) = .tuple #[.int .i64 (wrap64 (0 - a)), .bool true]) := by
          show twoV 9 a (-1) = _
          simp [twoV, twoM]
        have hv2 : Hid (twoV 9 a (-1) = .tuple #[.int .i64 (wrap64 (-a)), .bool true]) := by
          show twoV 9 a (-1) = _
          simp [twoV, twoM]
        go_enter Try.func23, Try.ntmps23
        go_wp2
        go_ret2
        exact ⟨by first | (rw [hv.out]; rfl) | (rw [hv2.out]; rfl), 0, rfl⟩
      · have h0 : (b == 0) = false := by rw [beq_eq_false_iff_ne]; exact hb
        have h1 : (b == -1) = false := by rw [beq_eq_false_iff_ne]; exact hb1
        have hv : Hid (twoV 9 a b = .tuple #[.int .i64 (wrap64 (a.tdiv b)), .bool true]) := by
          show twoV 9 a b = _
          simp [twoV, twoM, hb, hb1]
        go_enter Try.func23, Try.ntmps23
        go_wp2
        go_ret2
        exact ⟨by rw [hv.out]; rfl, 0, rfl⟩
  · by_cases hb : b = 0
    · subst hb
      go_enter Try.func23, Try.ntmps23
      go_wp2
      go_ret2
      exact ⟨rfl, 0, rfl⟩
    · by_cases hb1 : b = -1
      · subst hb1
        go_enter Try.func23, Try.ntmps23
        go_wp2
        go_ret2
        exact ⟨rfl, 0, rfl⟩
      · have h0 : (b == 0) = false := by rw [beq_eq_false_iff_ne]; exact hb
        have h1 : (b == -1) = false := by rw [beq_eq_false_iff_ne]; exact hb1
        have hv : Hid (twoV 10 a b = .tuple #[.int .i64 (wrap64 (a - wrap64 (wrap64 (a.tdiv b) * b))), .bool true]) := by
          show twoV 10 a b = _
          rw [rest_eq ha hb hb1]
          simp [twoV, twoM, hb, hb1]
        go_enter Try.func23, Try.ntmps23
        go_wp2
        go_ret2
        exact ⟨by rw [hv.out]; rfl, 0, rfl⟩
  · have hv : Hid (∀ t, decide (a < b) = t → twoV 12 a b = .tuple #[.int .i64 (truthM t), .bool true]) := by
      intro t ht; subst ht; rfl
    by_cases hab : a < b
    all_goals
      go_enter Try.func23, Try.ntmps23
      go_wp2
      go_ret2
      exact ⟨by first | (rw [hv.out true (by simpa using hab)]; rfl) | (rw [hv.out false (by simpa using hab)]; rfl), 0, rfl⟩
  · have hv : Hid (∀ t, (a == b) = t → twoV 13 a b = .tuple #[.int .i64 (truthM t), .bool true]) := by
      intro t ht; subst ht; rfl
    cases hab : (a == b)
    all_goals
      go_enter Try.func23, Try.ntmps23
      go_wp2
      go_ret2
      exact ⟨by rw [hv.out _ hab]; rfl, 0, rfl⟩
  · have hv : Hid (twoV op a b = .tuple #[.int .i64 0, .bool false]) := twoV_other h a b
    obtain ⟨h1, h2, h3, h4, h5, h6, h7⟩ := h
    have g4 : (op != 9) = true := by rw [bne_iff_ne]; exact beq_eq_false_iff_ne.1 h4
    have g5 : (op != 10) = true := by rw [bne_iff_ne]; exact beq_eq_false_iff_ne.1 h5
    go_enter Try.func23, Try.ntmps23
    go_wp2
    go_ret2
    exact ⟨by rw [hv.out]; rfl, 0, rfl⟩

/-! One number. -/
def oneM (op a : Int) : Int := if op = 11 then wrap64 (-a) else if op = 14 then truthM (a == 0) else 0
theorem op_one (op : Int) : op = 11 ∨ op = 14 ∨ ((op == 11) = false ∧ (op == 14) = false) := by
  simp only [beq_eq_false_iff_ne]
  omega
set_option maxHeartbeats 1000000 in
theorem whole_One_any (op a : Int) (w : World) : Calls Try.prog 44 #[.int .i64 op, .int .i64 a] w fun e w' => e = .returned (.int .i64 (oneM op a)) ∧ w = w' := by
  rcases op_one op with rfl | rfl | ⟨h1, h2⟩
  · go_enter Try.func44, Try.ntmps44
    go_wp2
    go_ret
    exact ⟨rfl, rfl⟩
  · have hv : Hid (∀ t, (a == 0) = t → oneM 14 a = truthM t) := by intro t ht; subst ht; rfl
    cases hab : (a == 0)
    all_goals
      go_enter Try.func44, Try.ntmps44
      go_wp2
      go_ret
      exact ⟨by rw [hv.out _ hab]; rfl, rfl⟩
  · have hv : Hid (oneM op a = 0) := by
      show oneM op a = 0
      simp only [beq_eq_false_iff_ne] at h1 h2
      simp [oneM, h1, h2]
    go_enter Try.func44, Try.ntmps44
    go_wp2
    go_ret
    exact ⟨by rw [hv.out]; rfl, rfl⟩
set_option maxHeartbeats 1000000 in
theorem ref_One_any (op a : Int) (w : World) : Calls Try.prog 22 #[.int .i64 op, .int .i64 a] w fun e w' => e = .returned (.int .i64 (oneM op a)) ∧ w = w' := by
  rcases op_one op with rfl | rfl | ⟨h1, h2⟩
  · have hv : Hid (oneM 11 a = wrap64 (0 - a)) := by
      show oneM 11 a = _
      simp [oneM]
    have hv2 : Hid (oneM 11 a = wrap64 (-a)) := rfl
    go_enter Try.func22, Try.ntmps22
    go_wp2
    go_ret
    exact ⟨by first | (rw [hv.out]; rfl) | (rw [hv2.out]; rfl), rfl⟩
  · have hv : Hid (∀ t, (a == 0) = t → oneM 14 a = truthM t) := by intro t ht; subst ht; rfl
    cases hab : (a == 0)
    all_goals
      go_enter Try.func22, Try.ntmps22
      go_wp2
      go_ret
      exact ⟨by rw [hv.out _ hab]; rfl, rfl⟩
  · have hv : Hid (oneM op a = 0) := by
      show oneM op a = 0
      simp only [beq_eq_false_iff_ne] at h1 h2
      simp [oneM, h1, h2]
    go_enter Try.func22, Try.ntmps22
    go_wp2
    go_ret
    exact ⟨by rw [hv.out]; rfl, rfl⟩

/-! How many numbers. -/
def takesNM (op : Int) : Int := if op = 6 ∨ op = 7 ∨ op = 8 ∨ op = 9 ∨ op = 10 ∨ op = 12 ∨ op = 13 then 2 else if op = 11 ∨ op = 14 then 1 else 0
theorem op_takes (op : Int) : (op = 6 ∨ op = 7 ∨ op = 8 ∨ op = 9 ∨ op = 10 ∨ op = 12 ∨ op = 13 ∨ op = 11 ∨ op = 14) ∨ op < 6 ∨ 14 < op := by omega
set_option maxHeartbeats 2000000 in
theorem whole_Takes_any (op : Int) (w : World) : Calls Try.prog 31 #[.int .i64 op] w fun e w' => e = .returned (.int .i64 (takesNM op)) ∧ w = w' := by
  rcases op_takes op with h | h
  · rcases h with rfl | rfl | rfl | rfl | rfl | rfl | rfl | rfl | rfl
    all_goals
      go_enter Try.func31, Try.ntmps31
      go_wp2
      go_ret
      exact ⟨rfl, rfl⟩
  · have hv : Hid (takesNM op = 0) := by
      show takesNM op = 0
      unfold takesNM
      rw [if_neg (by omega), if_neg (by omega)]
    rcases h with h | h
    all_goals
      go_enter Try.func31, Try.ntmps31
      go_wp2
      go_ret
      exact ⟨by rw [hv.out]; rfl, rfl⟩
set_option maxHeartbeats 2000000 in
theorem ref_Takes_any (op : Int) (w : World) : Calls Try.prog 19 #[.int .i64 op] w fun e w' => e = .returned (.int .i64 (takesNM op)) ∧ w = w' := by
  rcases op_takes op with h | h
  · rcases h with rfl | rfl | rfl | rfl | rfl | rfl | rfl | rfl | rfl
    all_goals
      go_enter Try.func19, Try.ntmps19
      go_wp2
      go_ret
      exact ⟨rfl, rfl⟩
  · have hv : Hid (takesNM op = 0) := by
      show takesNM op = 0
      unfold takesNM
      rw [if_neg (by omega), if_neg (by omega)]
    rcases h with h | h
    · have f1 : (op == 11) = false := by rw [beq_eq_false_iff_ne]; omega
      have f2 : (op == 14) = false := by rw [beq_eq_false_iff_ne]; omega
      have f3 : (op == 12) = false := by rw [beq_eq_false_iff_ne]; omega
      have f4 : (op == 13) = false := by rw [beq_eq_false_iff_ne]; omega
      have f5 : decide (6 ≤ op) = false := by simp; omega
      go_enter Try.func19, Try.ntmps19
      go_wp2
      go_ret
      exact ⟨by rw [hv.out]; rfl, rfl⟩
    · have f1 : (op == 11) = false := by rw [beq_eq_false_iff_ne]; omega
      have f2 : (op == 14) = false := by rw [beq_eq_false_iff_ne]; omega
      have f3 : (op == 12) = false := by rw [beq_eq_false_iff_ne]; omega
      have f4 : (op == 13) = false := by rw [beq_eq_false_iff_ne]; omega
      have f5 : decide (op ≤ 10) = false := by simp; omega
      have f6 : 6 ≤ op := by omega
      go_enter Try.func19, Try.ntmps19
      go_wp2
      go_ret
      exact ⟨by rw [hv.out]; rfl, rfl⟩
end Go.Proofs.Ytjalphlhooojoaa
