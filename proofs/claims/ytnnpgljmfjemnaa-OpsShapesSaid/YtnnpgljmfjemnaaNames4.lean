/-
  The document's Find, the example, and the law of the names.
-/
import Derived.Test.YtnnpgljmfjemnaaNames3
namespace Go.Proofs.Ytnnpgljmfjemnaa
open Go.RowKit
set_option linter.unusedSimpArgs false
set_option linter.unusedVariables false

set_option maxRecDepth 100000 in
set_option maxHeartbeats 400000 in
theorem ref_Find_any (s : ByteArray) (w : World) : Calls Try.prog 32 #[.string s] w fun e w' => e = .returned (findV s) ∧ w = w' := by
  go_enter Try.func32, Try.ntmps32
  go_wp2
  go_loop [4] (fun i => ∃ k : Nat, k ≤ 35 ∧ i = .int .i64 k ∧ NoneTo s k) (fun i => 35 - (intOf i).toNat)
  case atStart => exact ⟨0, Nat.zero_le _, rfl, fun j hj => absurd hj (by omega)⟩
  case round =>
    obtain ⟨k, hk, rfl, hno⟩ := hrel
    have HK := Lib.hid hno
    clear hno
    by_cases hlt : k < 35
    · obtain ⟨x, hx⟩ : ∃ x, bs (namesL.getD k []) = x := ⟨_, rfl⟩
      have hnm : bs (nameM (k : Int)) = x := by rw [nameM_nat]; exact hx
      have HX := Lib.hid hx
      have HNM := Lib.hid hnm
      clear hx hnm
      have hcall : ∀ w : World, Hid (Calls Try.prog 34 #[.int .i64 (k : Int)] w fun e w' => e = .returned (.string x) ∧ w = w') := fun w => by
        have := ref_Name_any (k : Int) w
        rw [HNM.out] at this
        exact this
      cases hxs : (x.toList == s.toList)
      · go_wp2_with (go_at_call 34; refine Calls.mono (hcall _).out ?_; rintro e w' ⟨rfl, rfl⟩)
        go_round
        case rel => exact ⟨k + 1, hlt, by go_num, HK.out.succ (by rw [HX.out]; exact hxs)⟩
        case measure => simp [intOf]; omega
      · have hv : Hid (findV s = .tuple #[.int .i64 k, .bool true]) := findV_hit s k hlt (by rw [HX.out]; exact hxs) HK.out
        go_wp2_with (go_at_call 34; refine Calls.mono (hcall _).out ?_; rintro e w' ⟨rfl, rfl⟩)
        go_ret2
        exact ⟨by rw [hv.out]; rfl, rfl⟩
    · have hv : Hid (findV s = .tuple #[.int .i64 0, .bool false]) := findV_miss s fun j hj => HK.out j (by omega)
      go_wp2
      go_ret2
      exact ⟨by rw [hv.out]; rfl, rfl⟩

theorem findV_ret : findV ⟨#[114, 101, 116]⟩ = .tuple #[.int .i64 25, .bool true] := by
  have h : findI ⟨#[114, 101, 116]⟩ = 25 := by decide +kernel
  unfold findV
  rw [h]
  rfl
theorem nameM_25 : bs (nameM 25) = ⟨#[114, 101, 116]⟩ := by decide +kernel

set_option maxRecDepth 100000 in
set_option maxHeartbeats 400000 in
theorem ops_lives (w : World) : Calls Try.prog 30 #[] w fun e w' => e = .returned (.bool true) ∧ Below w.heap.size w w' := by
  go_enter Try.func30, Try.ntmps30
  go_wp2_with fail
  refine (ops_Find_any _ _).mono ?_
  rintro e w1 ⟨rfl, hb1⟩
  rw [findV_ret]
  go_wp2_with fail
  refine (ops_Name_any _ _).mono ?_
  rintro e w2 ⟨rfl, hb2⟩
  rw [nameM_25]
  go_wp2_with fail
  refine (ops_Operand_any _ _).mono ?_
  rintro e w3 ⟨rfl, rfl⟩
  rw [show operandM 22 = 3 from rfl]
  go_wp2_with fail
  refine (ops_Raises_any _ _).mono ?_
  rintro e w3 ⟨rfl, rfl⟩
  rw [show raisesM 9 = true from rfl]
  go_wp2_with fail
  go_ret
  exact ⟨rfl, hb1.trans (hb2.mono hb1.size)⟩

set_option maxRecDepth 100000 in
set_option maxHeartbeats 1000000 in
theorem names_law (op : Int) (s : ByteArray) (w : World) (_h : (Lit.int .i64 op).wf = true) (_hs : s.size ≤ reachBytes) :
    Calls Try.prog 7 #[.int .i64 op, .string s] w fun e w' => e = .returned (.bool true) ∧ Below w.heap.size w w' := by
  by_cases h50 : 50 < s.size
  · go_enter Try.func7, Try.ntmps7
    go_wp2_with (go_at_call 30; refine (ops_lives _).mono ?_; rintro e w' ⟨rfl, hb⟩)
    go_ret
    exact ⟨rfl, hb⟩
  · obtain ⟨fi, fb, hf⟩ : ∃ (fi : Int) (fb : Bool), findV s = .tuple #[.int .i64 fi, .bool fb] := ⟨_, _, rfl⟩
    have c1 : ∀ w : World, Hid (Calls Try.prog 31 #[.string s] w fun e w' => e = .returned (.tuple #[.int .i64 fi, .bool fb]) ∧ Below w.heap.size w w') := fun w => by rw [← hf]; exact ops_Find_any s w
    have c2 : ∀ w : World, Hid (Calls Try.prog 32 #[.string s] w fun e w' => e = .returned (.tuple #[.int .i64 fi, .bool fb]) ∧ w = w') := fun w => by rw [← hf]; exact ref_Find_any s w
    obtain ⟨x, hx⟩ : ∃ x, bs (nameM op) = x := ⟨_, rfl⟩
    have c3 : ∀ w : World, Hid (Calls Try.prog 33 #[.int .i64 op] w fun e w' => e = .returned (.string x) ∧ Below w.heap.size w w') := fun w => by rw [← hx]; exact ops_Name_any op w
    have c4 : ∀ w : World, Hid (Calls Try.prog 34 #[.int .i64 op] w fun e w' => e = .returned (.string x) ∧ w = w') := fun w => by rw [← hx]; exact ref_Name_any op w
    clear hf hx
    go_enter Try.func7, Try.ntmps7
    go_wp2_with fail
    refine Calls.mono (c1 _).out ?_
    rintro e w1 ⟨rfl, hb1⟩
    go_wp2_with fail
    refine Calls.mono (c2 _).out ?_
    rintro e w2 ⟨rfl, rfl⟩
    go_wp2_with fail
    refine Calls.mono (c3 _).out ?_
    rintro e w2 ⟨rfl, hb2⟩
    go_wp2_with fail
    refine Calls.mono (c4 _).out ?_
    rintro e w3 ⟨rfl, rfl⟩
    go_wp2_with fail
    refine (ops_lives _).mono ?_
    rintro e w4 ⟨rfl, hb4⟩
    go_wp2_with fail
    go_ret
    exact ⟨rfl, (hb1.trans (hb2.mono hb1.size)).trans (hb4.mono (Nat.le_trans hb1.size hb2.size))⟩
end Go.Proofs.Ytnnpgljmfjemnaa
