/-
  A new cursor of any bytes.
-/
import Derived.Test.YtiblcodlaeijfaaMt3
import Derived.Test.YtiblcodlaeijfaaApp
import Derived.Test.YtiblcodlaeijfaaMtN
namespace Go.Proofs.Ytiblcodlaeijfaa
open Go.RowKit
set_option linter.unusedSimpArgs false
set_option linter.unusedVariables false
theorem info_u8 : (Try.prog.info? 5).map (fun i => (i.zero, i.size, i.bytes)) = some (some (.int .u8 0), 1, 1) := by kernel_rfl
def rowL (l : List Nat) : List Value := l.flatMap fun b : Nat => [.int .u8 (b : Int)]
theorem slb_src {w : World} {B : Nat} {A : Option Addr} {n c : Nat} {l : List Nat} (h : SlB w B A n c l) : SrcCells w A n 1 (rowL l) := SlR.src (sz := 1) (f := fun b : Nat => [.int .u8 (b : Int)]) (fun _ => rfl) h.1
theorem one_rowL (l : List Nat) : ∀ u ∈ rowL l, u.oneCell' = true := fun u hu => by
  obtain ⟨v, _, hv⟩ := List.mem_flatMap.1 hu
  simp at hv
  subst hv
  rfl
set_option maxHeartbeats 1000000 in
theorem clone_any (A : Option Addr) (n c : Nat) (l : List Nat) (w : World) (h : SlB w w.heap.size A n c l) (hn : n ≤ 140737488355328) : Calls Try.prog 15 #[.slice A n c] w fun e w' => ∃ A' c', e = .returned (.slice A' n c') ∧ SlB w' w'.heap.size A' n c' l ∧ (∀ ad, A' = some ad → ad.block < w'.heap.size) ∧ Below w.heap.size w w' := by
  have hnil := fun w => Lib.run_eql_slice_nil (P := Try.prog) w 22 5 A n c 0 0 Try.underlying22
  cases A with
  | none =>
    have h0 : n = 0 := by
      rcases Nat.eq_zero_or_pos n with h0 | h0
      · exact h0
      · obtain ⟨b, off, hA, _⟩ := h.1.2.2.2.2 h0
        cases hA
    subst h0
    have hl : l = [] := List.eq_nil_of_length_eq_zero h.1.1
    subst hl
    clear h
    go_enter Try.func15, Try.ntmps15
    go_wp2
    go_ret
    exact ⟨none, 0, rfl, ⟨SlR.nil_ _ _, fun b hb => by cases hb⟩, fun ad h => (by cases h), Below.refl _ _⟩
  | some ad =>
    obtain ⟨i0, hi, hz0, hz1, hz2⟩ := info_parts info_u8
    have hb0 : Below w.heap.size w (w.alloc (.cells #[] 5)) := (Below.refl _ _).alloc (Nat.le_refl _) _
    have hsrc := Lib.hid ((slb_src h).keep fun ad j u ha hc => (World.cell?_alloc_lt w (.cells #[] 5) _ (World.block_lt_of_cell? _ _ hc)).trans hc)
    have HO := Lib.hid (World.ownsRow_lit (base := w.heap.size) (e := 5) (size := 1) w #[] 0 (Nat.le_refl _) (by unfold maxLen; omega) rfl)
    have hone := Lib.hid (one_rowL l)
    have hby := Lib.hid h.2
    have hsz := hb0.size
    have HB0 := Lib.hid hb0
    clear h hb0
    go_enter Try.func15, Try.ntmps15
    go_wp2_with (first
      | (at_builtin; go_must (refine wpList_append_src _ rfl _ _ 22 rfl w.heap.size 5 i0 (.int .u8 0) 1 1 Try.underlying22 hi hz0 hz1 hz2 rfl (by decide) _ _ _ rfl HO.out (some ad) n c (rowL l) rfl hsrc.out hone.out (by unfold maxLen; omega) (by omega) hsz ?_)
         intro v' w3 hown hgrow hat
         rw [Nat.zero_add, List.nil_append] at hown
         obtain ⟨A3, c3, rfl, _, hA3⟩ := own_form hown
         have hk3 : Kp (fun k => w.heap.size ≤ k) w w3 := ((Kp.refl _ _).alloc _).ofGrown hgrow (fun j hj hl => (World.ownsRow.lt HO.out j hj).1)
         have F : Hid (SlB w3 w3.heap.size A3 n c3 l ∧ (∀ ad, A3 = some ad → ad.block < w3.heap.size) ∧ Below w.heap.size w w3) := Lib.hid ⟨⟨SlR.of_ownN (base := w.heap.size) (e := 5) (f := fun b : Nat => [.int .u8 (b : Int)]) (fun _ => rfl) (by decide) hown (by omega), hby.out⟩, fun ad had => (by obtain ⟨g9, e9, _, h9⟩ := hA3 ad had; rw [e9]; exact h9), hk3.below (Nat.le_refl _) (fun _ h => h)⟩
         clear hown hgrow hat hk3 hA3))
    go_ret
    exact ⟨A3, c3, rfl, F.out⟩
theorem cursor_new (A : Option Addr) (n c : Nat) (l : List Nat) (w : World) (h : SlB w w.heap.size A n c l) (hn : n ≤ 140737488355328) : Calls Try.prog 5 #[.slice A n c] w fun e w' => ∃ g, e = .returned (.pointer (some ⟨g, 0, none⟩)) ∧ w.heap.size ≤ g ∧ CurW w' g l 0 ∧ Below w.heap.size w w' := by
  have cC := Lib.hid (clone_any A n c l w h hn)
  clear h
  go_enter Try.func5, Try.ntmps5
  go_wp2_with fail
  refine cC.out.mono ?_
  rintro e w1 ⟨A1, c1, rfl, hs, hlt, hb⟩
  have F : Hid (w.heap.size ≤ w1.heap.size ∧ CurW (w1.alloc (.cells #[.slice A1 n c1, .bool true, .int .i64 0] 48)) w1.heap.size l 0 ∧ Below w.heap.size w (w1.alloc (.cells #[.slice A1 n c1, .bool true, .int .i64 0] 48))) := Lib.hid (by
    have z := fun j u hu => new_cells (w := w1) (cs := #[.slice A1 n c1, .bool true, .int .i64 0]) (t := 48) (Below.refl _ _) j u hu
    refine ⟨hb.size, ⟨⟨A1, n, c1, (z 0 _ rfl).1, slb_kp hs (Nat.le_refl _) (fun _ _ => id) (Kp.alloc (S := fun _ => False) (Kp.refl _ _) _), fun ad had => ?_⟩, (z 1 _ rfl).1, (z 2 _ rfl).1, fun j hj => ?_⟩, hb.alloc hb.size _⟩
    · exact hlt ad had
    · rcases (show j = 0 ∨ j = 1 ∨ j = 2 by omega) with rfl | rfl | rfl
      · exact (z 0 _ rfl).2
      · exact (z 1 _ rfl).2
      · exact (z 2 _ rfl).2)
  clear hs hb hlt
  go_wp2_with fail
  go_ret
  exact ⟨_, rfl, F.out⟩
end Go.Proofs.Ytiblcodlaeijfaa
