/-
  Numbers as few bytes: the walks of UvarGets and UvarBack.
-/
import Derived.Test.YtnnpgljmfjemnaaUvarL
namespace Go.Proofs.Ytnnpgljmfjemnaa
open Go.RowKit
set_option linter.unusedSimpArgs false
set_option linter.unusedVariables false

set_option maxRecDepth 100000 in
set_option maxHeartbeats 1000000 in
theorem uvarGets_law (A : Option Addr) (n c : Nat) (xs : List Int) (w : World) (h : SlR 1 1 (RInt .u8) w w.heap.size A n c xs) :
    Calls Try.prog 11 #[.slice A n c] w fun e w' => e = .returned (.bool true) ∧ Below w.heap.size w w' := by
  obtain ⟨l, hs⟩ := slb_of h
  have c1 : Hid (Calls Try.prog 56 #[.slice A n c] w fun e w' => e = .returned (getV l) ∧ w = w') := uvar_Get_any _ A n c l w hs
  have c2 : Hid (Calls Try.prog 57 #[.slice A n c] w fun e w' => e = .returned (getV l) ∧ w = w') := ref_Get_any _ A n c l w hs
  have c3 : Hid (Calls Try.prog 58 #[.slice A n c] w fun e w' => e = .returned (getIV l) ∧ w = w') := uvar_GetInt_any _ A n c l w hs
  have c4 : Hid (Calls Try.prog 59 #[.slice A n c] w fun e w' => e = .returned (getIV l) ∧ w = w') := ref_GetInt_any _ A n c l w hs
  obtain ⟨x1, x2, x3, hv⟩ : ∃ x1 x2 x3 : Int, getV l = .tuple #[.int .u64 x1, .int .i64 x2, .int .i64 x3] := ⟨_, _, _, rfl⟩
  obtain ⟨y1, y2, y3, hw⟩ : ∃ y1 y2 y3 : Int, getIV l = .tuple #[.int .i64 y1, .int .i64 y2, .int .i64 y3] := by
    unfold getIV
    split
    · exact ⟨_, _, _, rfl⟩
    · exact ⟨_, _, _, rfl⟩
  rw [hv] at c1 c2
  rw [hw] at c3 c4
  clear hv hw hs h
  have t1 : (x1 == x1) = true := by simp
  have t2 : (x2 == x2) = true := by simp
  have t3 : (x3 == x3) = true := by simp
  have t4 : (y1 == y1) = true := by simp
  have t5 : (y2 == y2) = true := by simp
  have t6 : (y3 == y3) = true := by simp
  go_enter Try.func11, Try.ntmps11
  go_wp2_with fail
  refine Calls.mono c1.out ?_
  rintro e w1 ⟨rfl, rfl⟩
  go_wp2_with fail
  refine Calls.mono c2.out ?_
  rintro e w1 ⟨rfl, rfl⟩
  go_wp2_with fail
  refine Calls.mono c3.out ?_
  rintro e w1 ⟨rfl, rfl⟩
  go_wp2_with fail
  refine Calls.mono c4.out ?_
  rintro e w1 ⟨rfl, rfl⟩
  go_wp2_with fail
  refine (uvar_lives _).mono ?_
  rintro e w1 ⟨rfl, hb⟩
  go_wp2_with fail
  go_ret
  exact ⟨rfl, hb⟩

end Go.Proofs.Ytnnpgljmfjemnaa
