/-
  Find and Name, the program's and the document's, and the law of the names.
-/
import Derived.Test.YtnnpgljmfjemnaaNames2
namespace Go.Proofs.Ytnnpgljmfjemnaa
open Go.RowKit
set_option linter.unusedSimpArgs false
set_option linter.unusedVariables false

def findI (s : ByteArray) : Nat := namesL.findIdx fun l => (bs l).toList == s.toList
theorem names_len : namesL.length = 35 := rfl
theorem names_getD (k : Nat) (h : k < 35) : namesL.getD k [] = namesL[k]'h := by
  rw [List.getD_eq_getElem?_getD, List.getElem?_eq_getElem (by exact h)]
  rfl
theorem findI_hit (s : ByteArray) (k : Nat) (h : k < 35) (hk : ((bs (namesL.getD k [])).toList == s.toList) = true) (hj : ∀ j, j < k → ((bs (namesL.getD j [])).toList == s.toList) = false) : findI s = k := by
  unfold findI
  rw [List.findIdx_eq (by exact h)]
  refine ⟨by rw [← names_getD k h]; exact hk, fun j hjk => ?_⟩
  have := hj j hjk
  rw [names_getD j (by omega)] at this
  exact this
theorem findI_miss (s : ByteArray) (hj : ∀ j, j < 35 → ((bs (namesL.getD j [])).toList == s.toList) = false) : findI s = 35 := by
  unfold findI
  have : namesL.findIdx (fun l => (bs l).toList == s.toList) = namesL.length := by
    rw [List.findIdx_eq_length]
    intro x hx
    obtain ⟨j, hj1, rfl⟩ := List.getElem_of_mem hx
    have := hj j (by exact hj1)
    rw [names_getD j (by exact hj1)] at this
    exact this
  rw [this]
  rfl
/-- What Find answers. -/
def findV (s : ByteArray) : Value := .tuple #[.int .i64 (if findI s < 35 then findI s else 0), .bool (decide (findI s < 35))]
theorem findV_hit (s : ByteArray) (k : Nat) (h : k < 35) (hk : ((bs (namesL.getD k [])).toList == s.toList) = true) (hj : ∀ j, j < k → ((bs (namesL.getD j [])).toList == s.toList) = false) : findV s = .tuple #[.int .i64 k, .bool true] := by
  unfold findV
  rw [findI_hit s k h hk hj]
  simp [h]
theorem findV_miss (s : ByteArray) (hj : ∀ j, j < 35 → ((bs (namesL.getD j [])).toList == s.toList) = false) : findV s = .tuple #[.int .i64 0, .bool false] := by
  unfold findV
  rw [findI_miss s hj]
  simp

def NoneTo (s : ByteArray) (k : Nat) : Prop := ∀ j, j < k → ((bs (namesL.getD j [])).toList == s.toList) = false
theorem NoneTo.succ {s : ByteArray} {k : Nat} (h : NoneTo s k) (hk : ((bs (namesL.getD k [])).toList == s.toList) = false) : NoneTo s (k + 1) := by
  intro j hj
  by_cases he : j = k
  · subst he; exact hk
  · exact h j (by omega)

set_option maxRecDepth 100000 in
set_option maxHeartbeats 400000 in
theorem ops_Find_any (s : ByteArray) (w : World) : Calls Try.prog 31 #[.string s] w fun e w' => e = .returned (findV s) ∧ Below w.heap.size w w' := by
  go_enter Try.func31, Try.ntmps31
  go_wp2_with (first | (go_at_call 73; refine (all_cells _).mono ?_; rintro e w' ⟨g, cap, rfl, hall, hb⟩; have HA := Lib.hid hall; clear hall))
  go_loop [8] (fun i => ∃ k : Nat, k ≤ nNames ∧ i = .int .i64 k ∧ NoneTo s k) (fun i => nNames - (intOf i).toNat)
  case atStart => exact ⟨0, Nat.zero_le _, rfl, fun j hj => absurd hj (by omega)⟩
  case round =>
    obtain ⟨k, hk, rfl, hno⟩ := hrel
    by_cases hlt : k < nNames
    · have hk35 : k < 35 := hlt
      have hcell := (HA.out k hk35).trans (getElem?_names k hk35)
      have HK := Lib.hid hno
      clear hno
      obtain ⟨x, hx⟩ : ∃ x, bs (namesL.getD k []) = x := ⟨_, rfl⟩
      rw [hx] at hcell
      have HX := Lib.hid hx
      clear hx
      cases hxs : (x.toList == s.toList)
      · go_wp2
        go_round
        case rel => exact ⟨k + 1, hlt, by go_num, HK.out.succ (by rw [HX.out]; exact hxs)⟩
        case measure => simp [intOf]; omega
      · have hv : Hid (findV s = .tuple #[.int .i64 k, .bool true]) := findV_hit s k hk35 (by rw [HX.out]; exact hxs) HK.out
        go_wp2
        go_ret2
        exact ⟨by rw [hv.out]; rfl, hb⟩
    · have hv : Hid (findV s = .tuple #[.int .i64 0, .bool false]) := findV_miss s fun j hj => hno j (by have : nNames = 35 := rfl; omega)
      clear hno
      go_wp2
      go_ret2
      exact ⟨by rw [hv.out]; rfl, hb⟩

set_option maxRecDepth 100000 in
set_option maxHeartbeats 1000000 in
theorem ref_Name_in (k0 : Nat) (h0 : k0 < 35) (w : World) : Calls Try.prog 34 #[.int .i64 (k0 : Int)] w fun e w' => e = .returned (.string (bs (namesL.getD k0 []))) ∧ w = w' := by
  have hn0 : ¬ ((k0 : Int) < 0) := by omega
  have hn1 : ¬ ((35 : Int) ≤ (k0 : Int)) := by omega
  have hd0 : decide ((k0 : Int) < 0) = false := by simp
  have hd1 : decide ((35 : Int) ≤ (k0 : Int)) = false := by simp; omega
  go_enter Try.func34, Try.ntmps34
  go_wp2
  go_loop [3, 4, 5] (fun fr kk i => ∃ p : Nat, p ≤ 176 ∧ i = .int .i64 p ∧ fr = .int .i64 (posAt p).2.1 ∧ kk = .int .i64 (posAt p).2.2 ∧ (posAt p).2.2 ≤ k0) (fun _ _ i => 176 - (intOf i).toNat)
  case atStart => exact ⟨0, Nat.zero_le _, rfl, rfl, rfl, Nat.zero_le _⟩
  case round =>
    obtain ⟨p, hp, rfl, rfl, rfl, hk⟩ := hrel
    by_cases hlt : p < 176
    · have hix := words2_index p hlt
      have HS : Hid (posAt (p + 1) = posSt (posAt p) (words2L[p]'hlt)) := posAt_succ p hlt
      have HN : Hid (words2L[p]'hlt = 32 → (words2L.drop (posAt p).2.1).take (p - (posAt p).2.1) = namesL.getD (posAt p).2.2 []) := posAt_name ⟨p, hlt⟩
      obtain ⟨hp1, hp2, hp3⟩ := posAt_ok ⟨p, by omega⟩
      simp only at hp1 hp2 hp3
      have hsl := words2_slice (posAt p).2.1 p hp2 hp
      obtain ⟨c, hc⟩ : ∃ c, words2L[p]'hlt = c := ⟨_, rfl⟩
      rw [hc] at hix HS HN
      clear hc
      have HP := Lib.hid hp1
      clear hp1
      generalize posAt p = S at *
      obtain ⟨q, fr, kk⟩ := S
      simp only at *
      obtain ⟨z, hz⟩ : ∃ z : Int, ((c.toNat : Nat) : Int) = z := ⟨_, rfl⟩
      rw [hz] at hix
      by_cases h32 : c = 32
      · have hz1 : (z != 32) = false := by rw [← hz, h32]; rfl
        have HC := Lib.hid h32
        clear hz h32
        by_cases hkk : kk = k0
        · subst hkk
          have hv := HN.out HC.out
          obtain ⟨x, hx⟩ : ∃ x, bs ((words2L.drop fr).take (p - fr)) = x := ⟨_, rfl⟩
          rw [hx] at hsl
          have hfin : bs (namesL.getD kk []) = x := by rw [← hv, hx]
          have HF := Lib.hid hfin
          clear hx hfin hv
          have ht : ((kk : Int) == (kk : Int)) = true := by simp
          go_wp2
          go_ret
          exact ⟨by rw [HF.out]; rfl, rfl⟩
        · have ht : ((kk : Int) == (k0 : Int)) = false := by rw [beq_eq_false_iff_ne]; omega
          have hkk' : kk < k0 := by omega
          clear hkk hsl
          go_wp2
          go_round
          case rel =>
            refine ⟨p + 1, by omega, by go_num, ?_, ?_, ?_⟩
            · rw [HS.out]; simp only [posSt, HC.out, if_true]; have := HP.out; subst this; go_num
            · rw [HS.out]; simp only [posSt, HC.out, if_true]; go_num
            · rw [HS.out]; simp only [posSt, HC.out, if_true]; omega
          case measure => simp [intOf]; omega
      · have hz1 : (z != 32) = true := by
          rw [← hz, bne_iff_ne]
          intro h
          exact h32 (UInt8.toNat_inj.1 (by simpa using (by omega : c.toNat = 32)))
        have HC := Lib.hid h32
        clear hz h32 hsl
        go_wp2
        go_round
        case rel =>
          refine ⟨p + 1, by omega, by go_num, ?_, ?_, ?_⟩
          · rw [HS.out]; simp only [posSt, if_neg HC.out]
          · rw [HS.out]; simp only [posSt, if_neg HC.out]
          · rw [HS.out]; simp only [posSt, if_neg HC.out]; exact hk
        case measure => simp [intOf]; omega
    · exfalso
      have : p = 176 := by omega
      subst this
      rw [posAt_end] at hk
      omega

theorem ref_Name_any (op : Int) (w : World) : Calls Try.prog 34 #[.int .i64 op] w fun e w' => e = .returned (.string (bs (nameM op))) ∧ w = w' := by
  by_cases hin : 0 ≤ op ∧ op < 35
  · obtain ⟨h0, h1⟩ := hin
    obtain ⟨k, rfl⟩ := Int.eq_ofNat_of_zero_le h0
    rw [nameM_nat]
    exact ref_Name_in k (by omega) w
  · have hm : nameM op = [] := opTab_out (by omega) rfl
    rw [hm]
    by_cases h0 : op < 0
    · go_enter Try.func34, Try.ntmps34
      go_wp2
      go_ret
      exact ⟨rfl, rfl⟩
    · have hd : decide ((35 : Int) ≤ op) = true := by simp; omega
      have hd0 : decide (op < 0) = false := by simp; omega
      have h0' : 0 ≤ op := by omega
      have h1 : 35 ≤ op := by omega
      go_enter Try.func34, Try.ntmps34
      go_wp2
      go_ret
      exact ⟨rfl, rfl⟩
end Go.Proofs.Ytnnpgljmfjemnaa
