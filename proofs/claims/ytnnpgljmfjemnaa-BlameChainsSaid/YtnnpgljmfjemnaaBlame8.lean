/-
  Panics: the example of the chapter.
-/
import Derived.Test.YtnnpgljmfjemnaaBlame7
namespace Go.Proofs.Ytnnpgljmfjemnaa
open Go.RowKit
set_option linter.unusedSimpArgs false
set_option linter.unusedVariables false

def exE : DEntry := { func := 0, line := 1 }
def exB (r : Bool) : DBlame := { kind := 1, num := 5, reco := r, trace := [exE] }
theorem exE_ok : OkE exE := ⟨by decide, by decide⟩
theorem ex_row (w : World) : SlE (w.alloc (.cells #[.int .i64 0, .int .i64 1] 78)) (w.alloc (.cells #[.int .i64 0, .int .i64 1] 78)).heap.size (some ⟨w.heap.size, 0, none⟩) 1 1 [exE] :=
  sle_own (World.ownsRow_lit (base := w.heap.size) (e := 78) (size := 2) w #[.int .i64 0, .int .i64 1] 1 (Nat.le_refl _) (by unfold maxLen; omega) rfl) (by unfold reachBytes; omega) (fun e he => by
    rw [List.mem_singleton] at he
    subst he
    exact exE_ok)
theorem ex_chain (w1 : World) (A : Option Addr) (c : Nat) (h : SlE w1 w1.heap.size A 1 c [exE]) :
    SlC (w1.alloc (.cells #[.int .i64 1, .int .i64 5, .bool false, .slice A 1 c] 35)) (w1.alloc (.cells #[.int .i64 1, .int .i64 5, .bool false, .slice A 1 c] 35)).heap.size (some ⟨w1.heap.size, 0, none⟩) 1 1 [exB false] := by
  refine filled_sl (World.ownsRow_lit (base := w1.heap.size) (e := 35) (size := 4) w1 #[.int .i64 1, .int .i64 5, .bool false, .slice A 1 c] 1 (Nat.le_refl _) (by unfold maxLen; omega) rfl) (fun i x hi hx => ?_) rfl (by unfold maxLen; omega) (by unfold reachBytes; omega)
  obtain rfl : i = 0 := by omega
  simp at hx
  subst hx
  obtain ⟨b, off, hA, hb, _⟩ := h.2.2.2.2 (by omega)
  refine ⟨A, 1, c, rfl, rfl, rfl, rfl, (h.keep ((Below.refl _ _).alloc (Nat.le_refl _) _)).up (by simp), fun ad had => ?_, by decide, by decide⟩
  rw [hA] at had
  injection had with had
  subst had
  show b ≠ _
  omega

set_option maxRecDepth 100000 in
set_option maxHeartbeats 2000000 in
theorem blame_lives (w : World) : Calls Try.prog 21 #[] w fun e w' => e = .returned (.bool true) ∧ Below w.heap.size w w' := by
  have c1 : Hid (Calls Try.prog 27 #[.int .i64 1, .int .i64 5, .slice (some ⟨w.heap.size, 0, none⟩) 1 1] (w.alloc (.cells #[.int .i64 0, .int .i64 1] 78)) fun e w' => ∃ A' m' c', e = .returned (blameV 1 5 false A' m' c') ∧ SlE w' w'.heap.size A' m' c' [exE] ∧ Below (w.alloc (.cells #[.int .i64 0, .int .i64 1] 78)).heap.size (w.alloc (.cells #[.int .i64 0, .int .i64 1] 78)) w') :=
    new_any 1 5 _ _ 1 1 [exE] _ (ex_row w) (Nat.le_refl _)
  have c2 : ∀ (r : Bool) (A : Option Addr) (c : Nat) (W : World), SlC W W.heap.size A 1 c [exB r] → Hid (Calls Try.prog 22 #[.slice A 1 c] W (IsRec 1 [exB r] W)) := fun r A c W h => recover_any A 1 c _ W h (by omega)
  have c3 : ∀ (r : Bool) (B : Nat) (A : Option Addr) (c : Nat) (W : World), SlC W B A 1 c [exB r] → Hid (Calls Try.prog 25 #[.slice A 1 c] W fun e w' => e = .returned (.bool !r) ∧ W = w') := fun r B A c W h => open_any B A 1 c _ W h (by omega)
  go_enter Try.func21, Try.ntmps21
  go_wp2_with fail
  refine Calls.mono c1.out ?_
  rintro e w1 ⟨A1, m1, k1, rfl, hs1, hb1⟩
  obtain rfl : m1 = 1 := hs1.1.symm
  have hbw1 : Below w.heap.size w w1 := ((Below.refl _ _).alloc (Nat.le_refl _) _).trans (hb1.mono (by simp))
  have hc2 := ex_chain w1 A1 k1 hs1
  clear c1 hs1 hb1
  go_wp2_with fail
  refine Calls.mono (c2 false _ _ _ hc2).out ?_
  rintro e w3 ⟨A3, k3, rfl, hc3, hb3⟩
  go_wp2_with fail
  refine Calls.mono (c2 true _ _ _ hc3).out ?_
  rintro e w4 ⟨A4, k4, rfl, hc4, hb4⟩
  have hb34 : Below w3.heap.size w3 w4 := hb4
  have hbl : Below (w1.alloc (.cells #[.int .i64 1, .int .i64 5, .bool false, .slice A1 1 k1] 35)).heap.size (w1.alloc (.cells #[.int .i64 1, .int .i64 5, .bool false, .slice A1 1 k1] 35)) w4 := bl_trans hb3 hb3.size hb4
  obtain ⟨q3, _⟩ := new_cells hbl 3 (.slice A1 1 k1) rfl
  have hl : SlC w4 _ (some ⟨w1.heap.size, 0, none⟩) 1 1 [exB false] := SlR.below stable_Blame hc2 hbl
  have hm : SlC w4 _ A3 1 k3 [exB true] := SlR.below stable_Blame hc3 hb4
  have hfin : Below w.heap.size w w4 := (hbw1.alloc hbw1.size _).trans (hbl.mono (Nat.le_trans hbw1.size (by simp)))
  clear hbl hb34 hb4 hb3 hbw1 hc2 hc3 hc4 c2
  go_wp2_with fail
  refine Calls.mono (c3 false _ _ _ _ hl).out ?_
  rintro e w5 ⟨rfl, rfl⟩
  go_wp2_with fail
  refine Calls.mono (c3 true _ _ _ _ hm).out ?_
  rintro e w5 ⟨rfl, rfl⟩
  clear hl hm c3
  go_wp2_with fail
  go_outline
  go_ret
  exact ⟨rfl, hfin⟩
end Go.Proofs.Ytnnpgljmfjemnaa
