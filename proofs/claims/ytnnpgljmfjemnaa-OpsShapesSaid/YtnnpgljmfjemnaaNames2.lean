/-
  A name of an instruction, and the instruction of a name: the program's way, and the document's.
-/
import Derived.Test.YtnnpgljmfjemnaaNames
namespace Go.Proofs.Ytnnpgljmfjemnaa
open Go.RowKit
set_option linter.unusedSimpArgs false
set_option linter.unusedVariables false

def nameM (op : Int) : List UInt8 := opTab namesL [] op
theorem nameM_nat (k : Nat) : nameM (k : Int) = namesL.getD k [] := by simp [nameM, opTab]
/-- The first name that is s, as a number; 35: none. -/
def findM (s : ByteArray) : Nat := (namesL.findIdx? fun l => bs l == s).getD 35

theorem getElem?_names (k : Nat) (h : k < 35) : (namesL.map fun l => Value.string (bs l))[k]? = some (.string (bs (namesL.getD k []))) := by
  rw [List.getElem?_map, List.getD_eq_getElem?_getD, List.getElem?_eq_getElem (by exact h)]
  rfl

theorem all_cells (w : World) :
    Calls Try.prog 73 #[] w fun e w' => ∃ g cap, e = .returned (.slice (some ⟨g, 0, none⟩) nNames cap) ∧ (∀ k, k < 35 → w'.cell? ⟨g, k, none⟩ = (namesL.map fun l => Value.string (bs l))[k]?) ∧ Below w.heap.size w w' := by
  refine (all_any w).mono fun e w' ⟨v, he, hown, hb⟩ => ?_
  have hown0 := hown
  rcases hown.2 with ⟨_, hn0⟩ | ⟨g, cap, cur, rfl, _, _, hncap, hcapm, _, _⟩
  · exact absurd hn0 (by decide)
  · exact ⟨g, cap, he, fun k hk => hown0.cellAt k (by show k < 35 * 1; omega), hb⟩

set_option maxRecDepth 100000 in
set_option maxHeartbeats 400000 in
theorem ops_Name_any (op : Int) (w : World) : Calls Try.prog 33 #[.int .i64 op] w fun e w' => e = .returned (.string (bs (nameM op))) ∧ Below w.heap.size w w' := by
  by_cases hin : 0 ≤ op ∧ op < 35
  · obtain ⟨h0, h1⟩ := hin
    obtain ⟨k, rfl⟩ := Int.eq_ofNat_of_zero_le h0
    have hk : k < 35 := by omega
    have hn := getElem?_names k hk
    have hkn : k < nNames := hk
    rw [nameM_nat]
    obtain ⟨x, hx⟩ : ∃ x, bs (namesL.getD k []) = x := ⟨_, rfl⟩
    rw [hx] at hn ⊢
    clear hx
    go_enter Try.func33, Try.ntmps33
    go_wp2_with (first | (go_at_call 73; refine (all_cells _).mono ?_; rintro e w' ⟨g, cap, rfl, hall, hb⟩; have hcell := (hall k hk).trans hn; clear hall) | go_in)
    go_ret
    exact ⟨rfl, hb⟩
  · have hm : nameM op = [] := opTab_out (by omega) rfl
    rw [hm]
    by_cases h0 : op < 0
    · go_enter Try.func33, Try.ntmps33
      go_wp2
      go_ret
      exact ⟨rfl, Below.refl _ _⟩
    · have hd : decide (op < 35) = false := by simp; omega
      have h0' : 0 ≤ op := by omega
      go_enter Try.func33, Try.ntmps33
      go_wp2
      go_ret
      exact ⟨rfl, Below.refl _ _⟩

/-! The document's text of names: where the name that ends at a blank begins, and which one it is. -/
def words2L : List UInt8 := [110, 111, 112, 32, 112, 117, 115, 104, 32, 108, 111, 97, 100, 32, 115, 116, 111, 114, 101, 32, 112, 111, 112, 32, 100, 117, 112, 32, 97, 100, 100, 32, 115, 117, 98, 32, 109, 117, 108, 32, 100, 105, 118, 32, 109, 111, 100, 32, 110, 101, 103, 32, 108, 101, 115, 115, 32, 115, 97, 109, 101, 32, 110, 111, 116, 32, 112, 97, 105, 114, 32, 112, 108, 117, 115, 32, 109, 105, 110, 117, 115, 32, 116, 105, 109, 101, 115, 32, 114, 101, 97, 108, 32, 105, 109, 97, 103, 32, 106, 117, 109, 112, 32, 105, 102, 32, 99, 97, 108, 108, 32, 100, 101, 102, 101, 114, 32, 114, 101, 116, 32, 112, 97, 110, 105, 99, 32, 114, 101, 99, 111, 118, 101, 114, 32, 103, 101, 116, 114, 101, 115, 32, 115, 101, 116, 114, 101, 115, 32, 101, 109, 105, 116, 32, 116, 114, 97, 99, 101, 32, 100, 114, 97, 119, 32, 111, 112, 101, 110, 32, 99, 108, 111, 115, 101, 32]
def words2B : ByteArray := ⟨#[110, 111, 112, 32, 112, 117, 115, 104, 32, 108, 111, 97, 100, 32, 115, 116, 111, 114, 101, 32, 112, 111, 112, 32, 100, 117, 112, 32, 97, 100, 100, 32, 115, 117, 98, 32, 109, 117, 108, 32, 100, 105, 118, 32, 109, 111, 100, 32, 110, 101, 103, 32, 108, 101, 115, 115, 32, 115, 97, 109, 101, 32, 110, 111, 116, 32, 112, 97, 105, 114, 32, 112, 108, 117, 115, 32, 109, 105, 110, 117, 115, 32, 116, 105, 109, 101, 115, 32, 114, 101, 97, 108, 32, 105, 109, 97, 103, 32, 106, 117, 109, 112, 32, 105, 102, 32, 99, 97, 108, 108, 32, 100, 101, 102, 101, 114, 32, 114, 101, 116, 32, 112, 97, 110, 105, 99, 32, 114, 101, 99, 111, 118, 101, 114, 32, 103, 101, 116, 114, 101, 115, 32, 115, 101, 116, 114, 101, 115, 32, 101, 109, 105, 116, 32, 116, 114, 97, 99, 101, 32, 100, 114, 97, 119, 32, 111, 112, 101, 110, 32, 99, 108, 111, 115, 101, 32]⟩
def posSt (s : Nat × Nat × Nat) (c : UInt8) : Nat × Nat × Nat := if c = 32 then (s.1 + 1, s.1 + 1, s.2.2 + 1) else (s.1 + 1, s.2.1, s.2.2)
def posAt (p : Nat) : Nat × Nat × Nat := (words2L.take p).foldl posSt (0, 0, 0)
theorem posAt_succ (p : Nat) (h : p < words2L.length) : posAt (p + 1) = posSt (posAt p) words2L[p] := by
  unfold posAt
  rw [List.take_succ_eq_append_getElem h, List.foldl_append]
  rfl
theorem posAt_ok : ∀ p : Fin 177, (posAt p.val).1 = p.val ∧ (posAt p.val).2.1 ≤ p.val ∧ (posAt p.val).2.2 ≤ 35 := by decide +kernel
theorem posAt_end : (posAt 176).2.2 = 35 := by decide +kernel
theorem posAt_name : ∀ p : Fin 176, words2L[p.val]'(p.isLt) = 32 → (words2L.drop (posAt p.val).2.1).take (p.val - (posAt p.val).2.1) = namesL.getD (posAt p.val).2.2 [] := by decide +kernel
theorem words2_extract (i j : Nat) : words2B.extract i j = bs ((words2L.drop i).take (j - i)) := by
  apply ByteArray.ext
  apply Array.toList_inj.1
  have h : words2B.data.toList = words2L := rfl
  rw [ByteArray.data_extract, Array.toList_extract, h]
  simp [bs, List.extract]
theorem words2_size : words2B.size = 176 := by decide +kernel

set_option maxRecDepth 100000 in
theorem words2_index (i : Nat) (h : i < 176) : ∀ w : World, (Instr.index 9 (.string ⟨#[110, 111, 112, 32, 112, 117, 115, 104, 32, 108, 111, 97, 100, 32, 115, 116, 111, 114, 101, 32, 112, 111, 112, 32, 100, 117, 112, 32, 97, 100, 100, 32, 115, 117, 98, 32, 109, 117, 108, 32, 100, 105, 118, 32, 109, 111, 100, 32, 110, 101, 103, 32, 108, 101, 115, 115, 32, 115, 97, 109, 101, 32, 110, 111, 116, 32, 112, 97, 105, 114, 32, 112, 108, 117, 115, 32, 109, 105, 110, 117, 115, 32, 116, 105, 109, 101, 115, 32, 114, 101, 97, 108, 32, 105, 109, 97, 103, 32, 106, 117, 109, 112, 32, 105, 102, 32, 99, 97, 108, 108, 32, 100, 101, 102, 101, 114, 32, 114, 101, 116, 32, 112, 97, 110, 105, 99, 32, 114, 101, 99, 111, 118, 101, 114, 32, 103, 101, 116, 114, 101, 115, 32, 115, 101, 116, 114, 101, 115, 32, 101, 109, 105, 116, 32, 116, 114, 97, 99, 101, 32, 100, 114, 97, 119, 32, 111, 112, 101, 110, 32, 99, 108, 111, 115, 101, 32]⟩) (.int .i64 (i : Int))).run Try.prog w = .ok (.int .u8 ((words2L[i]'(h)).toNat : Int)) w := by
  intro w
  show (Instr.index 9 (.string words2B) (.int .i64 (i : Int))).run Try.prog w = _
  rw [run_index_string w _ _ _ _ Try.underlying9, dif_pos ⟨by omega, by rw [words2_size]; omega⟩]
  rfl
set_option maxRecDepth 100000 in
theorem words2_slice (i j : Nat) (hij : i ≤ j) (h : j ≤ 176) : ∀ w : World, (Instr.slice 9 (.string ⟨#[110, 111, 112, 32, 112, 117, 115, 104, 32, 108, 111, 97, 100, 32, 115, 116, 111, 114, 101, 32, 112, 111, 112, 32, 100, 117, 112, 32, 97, 100, 100, 32, 115, 117, 98, 32, 109, 117, 108, 32, 100, 105, 118, 32, 109, 111, 100, 32, 110, 101, 103, 32, 108, 101, 115, 115, 32, 115, 97, 109, 101, 32, 110, 111, 116, 32, 112, 97, 105, 114, 32, 112, 108, 117, 115, 32, 109, 105, 110, 117, 115, 32, 116, 105, 109, 101, 115, 32, 114, 101, 97, 108, 32, 105, 109, 97, 103, 32, 106, 117, 109, 112, 32, 105, 102, 32, 99, 97, 108, 108, 32, 100, 101, 102, 101, 114, 32, 114, 101, 116, 32, 112, 97, 110, 105, 99, 32, 114, 101, 99, 111, 118, 101, 114, 32, 103, 101, 116, 114, 101, 115, 32, 115, 101, 116, 114, 101, 115, 32, 101, 109, 105, 116, 32, 116, 114, 97, 99, 101, 32, 100, 114, 97, 119, 32, 111, 112, 101, 110, 32, 99, 108, 111, 115, 101, 32]⟩) (some (.int .i64 (i : Int))) (some (.int .i64 (j : Int))) none).run Try.prog w = .ok (.string (bs ((words2L.drop i).take (j - i)))) w := by
  intro w
  show (Instr.slice 9 (.string words2B) (some (.int .i64 (i : Int))) (some (.int .i64 (j : Int))) none).run Try.prog w = _
  rw [run_slice_string_if w _ _ _ _ _ _ Try.underlying9, if_pos ⟨by omega, by rw [words2_size]; omega⟩, if_pos ⟨by omega, by omega⟩, ← words2_extract]
  rfl
end Go.Proofs.Ytnnpgljmfjemnaa
