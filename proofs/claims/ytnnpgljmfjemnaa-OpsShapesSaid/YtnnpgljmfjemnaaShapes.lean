/-
  What an instruction takes and gives, as slices: the program's and the document's, held against each other.
-/
import Derived.Test.YtnnpgljmfjemnaaNames4
import Derived.RegionTactic
import Derived.ChangeAlike
import Derived.Deep.QuietTactic
import Derived.BigQuiet
import Derived.Deep.DeepMust
namespace Go.Proofs.Ytnnpgljmfjemnaa
open Go.RowKit
set_option linter.unusedSimpArgs false
set_option linter.unusedVariables false

/-- A slice of whole numbers, as a call hands it back. -/
abbrev SlI (w : World) (A : Option Addr) (n c : Nat) (xs : List Int) : Prop := SlR 1 8 (RI .i64) w w.heap.size A n c xs
theorem SlI.keep {w w' : World} {A : Option Addr} {n c : Nat} {xs : List Int} (h : SlI w A n c xs) (hb : Below w.heap.size w w') : SlI w' A n c xs :=
  (SlR.below (R := RI .i64) (stable_rc _) h hb).more hb.size

theorem sli_new (w : World) (cs : Array Value) (xs : List Int) (t : TypeId) (h : cs.toList = xs.map fun x => Value.int .i64 x) (hl : xs.length ≤ 1000) :
    SlI (w.alloc (.cells cs t)) (some ⟨w.heap.size, 0, none⟩) xs.length xs.length xs := by
  refine ⟨rfl, Nat.le_refl _, by unfold maxLen; omega, by unfold reachBytes; omega, fun hn => ⟨_, _, rfl, by simp, fun i x hi => ⟨[.int .i64 x], rfl, fun j u hj => ?_, rfl⟩⟩⟩
  have hj0 : j = 0 := by
    have := (List.getElem?_eq_some_iff.1 hj).1
    simp at this
    omega
  subst hj0
  simp at hj
  subst hj
  have hc : (w.alloc (.cells cs t)).cell? ⟨w.heap.size, 0 + (i * 1 + 0), none⟩ = cs[i]? := by rw [show 0 + (i * 1 + 0) = i by omega]; exact cell_of_row _ w.heap.size i cs t (0, 0) (heap_alloc_new w _)
  rw [hc, ← Array.getElem?_toList, h, List.getElem?_map, hi]
  rfl

def IsList (xs : List Int) (w : World) (e : Ending) (w' : World) : Prop := ∃ A n c, e = .returned (.slice A n c) ∧ SlI w' A n c xs ∧ Below w.heap.size w w'

set_option maxRecDepth 100000 in
set_option maxHeartbeats 2000000 in
theorem takes_any (op : Int) (w : World) : Calls Try.prog 37 #[.int .i64 op] w (IsList (takesM op) w) := by
  obtain ⟨s, hs, hcase⟩ : ∃ s, shapeM op = s ∧ ((s = 3 ∨ s = 5) ∧ takesM op = [1, 1] ∨ (s = 4 ∨ s = 8) ∧ takesM op = [1] ∨ s = 6 ∧ takesM op = [2, 2] ∨ s = 7 ∧ takesM op = [2] ∨ (s < 3 ∨ 8 < s) ∧ takesM op = []) := by
    refine ⟨_, rfl, ?_⟩
    rcases op_cases op with h | h
    · rw [show shapeM op = 0 from opTab_out h rfl, show takesM op = [] from opTab_out h rfl]
      simp
    · rcases h with rfl | rfl | rfl | rfl | rfl | rfl | rfl | rfl | rfl | rfl | rfl | rfl | rfl | rfl | rfl | rfl | rfl | rfl | rfl | rfl | rfl | rfl | rfl | rfl | rfl | rfl | rfl | rfl | rfl | rfl | rfl | rfl | rfl | rfl | rfl
      all_goals decide
  have c1 : ∀ w : World, Hid (Calls Try.prog 76 #[.int .i64 op] w fun e w' => e = .returned (.int .i64 s) ∧ w = w') := fun w => by rw [← hs]; exact ops_shape_any op w
  clear hs
  rcases hcase with ⟨h, ht⟩ | ⟨h, ht⟩ | ⟨h, ht⟩ | ⟨h, ht⟩ | ⟨h, ht⟩
  · rw [ht]; clear ht
    rcases h with rfl | rfl
    all_goals
      go_enter Try.func37, Try.ntmps37
      go_wp2_with (go_at_call 76; refine Calls.mono (c1 _).out ?_; rintro e w' ⟨rfl, rfl⟩)
      go_ret
      exact ⟨_, _, _, rfl, sli_new w _ [1, 1] _ rfl (by simp), (Below.refl _ _).alloc (Nat.le_refl _) _⟩
  · rw [ht]; clear ht
    rcases h with rfl | rfl
    all_goals
      go_enter Try.func37, Try.ntmps37
      go_wp2_with (go_at_call 76; refine Calls.mono (c1 _).out ?_; rintro e w' ⟨rfl, rfl⟩)
      go_ret
      exact ⟨_, _, _, rfl, sli_new w _ [1] _ rfl (by simp), (Below.refl _ _).alloc (Nat.le_refl _) _⟩
  · rw [ht]; clear ht; subst h
    go_enter Try.func37, Try.ntmps37
    go_wp2_with (go_at_call 76; refine Calls.mono (c1 _).out ?_; rintro e w' ⟨rfl, rfl⟩)
    go_ret
    exact ⟨_, _, _, rfl, sli_new w _ [2, 2] _ rfl (by simp), (Below.refl _ _).alloc (Nat.le_refl _) _⟩
  · rw [ht]; clear ht; subst h
    go_enter Try.func37, Try.ntmps37
    go_wp2_with (go_at_call 76; refine Calls.mono (c1 _).out ?_; rintro e w' ⟨rfl, rfl⟩)
    go_ret
    exact ⟨_, _, _, rfl, sli_new w _ [2] _ rfl (by simp), (Below.refl _ _).alloc (Nat.le_refl _) _⟩
  · rw [ht]; clear ht
    rcases h with h | h
    all_goals
      go_enter Try.func37, Try.ntmps37
      go_wp2_with (go_at_call 76; refine Calls.mono (c1 _).out ?_; rintro e w' ⟨rfl, rfl⟩)
      go_ret
      exact ⟨_, _, _, rfl, SlR.nil_ _ _, Below.refl _ _⟩

set_option maxRecDepth 100000 in
set_option maxHeartbeats 2000000 in
theorem gives_any (op : Int) (w : World) : Calls Try.prog 38 #[.int .i64 op] w (IsList (givesM op) w) := by
  obtain ⟨s, hs, hcase⟩ : ∃ s, shapeM op = s ∧ ((s = 2 ∨ s = 3 ∨ s = 4 ∨ s = 7) ∧ givesM op = [1] ∨ (s = 5 ∨ s = 6) ∧ givesM op = [2] ∨ s = 9 ∧ givesM op = [1, 1] ∨ (s < 2 ∨ s = 8) ∧ givesM op = []) := by
    refine ⟨_, rfl, ?_⟩
    rcases op_cases op with h | h
    · rw [show shapeM op = 0 from opTab_out h rfl, show givesM op = [] from opTab_out h rfl]
      simp
    · rcases h with rfl | rfl | rfl | rfl | rfl | rfl | rfl | rfl | rfl | rfl | rfl | rfl | rfl | rfl | rfl | rfl | rfl | rfl | rfl | rfl | rfl | rfl | rfl | rfl | rfl | rfl | rfl | rfl | rfl | rfl | rfl | rfl | rfl | rfl | rfl
      all_goals decide
  have c1 : ∀ w : World, Hid (Calls Try.prog 76 #[.int .i64 op] w fun e w' => e = .returned (.int .i64 s) ∧ w = w') := fun w => by rw [← hs]; exact ops_shape_any op w
  clear hs
  rcases hcase with ⟨h, ht⟩ | ⟨h, ht⟩ | ⟨h, ht⟩ | ⟨h, ht⟩
  · rw [ht]; clear ht
    rcases h with rfl | rfl | rfl | rfl
    all_goals
      go_enter Try.func38, Try.ntmps38
      go_wp2_with (go_at_call 76; refine Calls.mono (c1 _).out ?_; rintro e w' ⟨rfl, rfl⟩)
      go_ret
      exact ⟨_, _, _, rfl, sli_new w _ [1] _ rfl (by simp), (Below.refl _ _).alloc (Nat.le_refl _) _⟩
  · rw [ht]; clear ht
    rcases h with rfl | rfl
    all_goals
      go_enter Try.func38, Try.ntmps38
      go_wp2_with (go_at_call 76; refine Calls.mono (c1 _).out ?_; rintro e w' ⟨rfl, rfl⟩)
      go_ret
      exact ⟨_, _, _, rfl, sli_new w _ [2] _ rfl (by simp), (Below.refl _ _).alloc (Nat.le_refl _) _⟩
  · rw [ht]; clear ht; subst h
    go_enter Try.func38, Try.ntmps38
    go_wp2_with (go_at_call 76; refine Calls.mono (c1 _).out ?_; rintro e w' ⟨rfl, rfl⟩)
    go_ret
    exact ⟨_, _, _, rfl, sli_new w _ [1, 1] _ rfl (by simp), (Below.refl _ _).alloc (Nat.le_refl _) _⟩
  · rw [ht]; clear ht
    rcases h with h | rfl
    all_goals
      go_enter Try.func38, Try.ntmps38
      go_wp2_with (go_at_call 76; refine Calls.mono (c1 _).out ?_; rintro e w' ⟨rfl, rfl⟩)
      go_ret
      exact ⟨_, _, _, rfl, SlR.nil_ _ _, Below.refl _ _⟩

theorem info_type : (Try.prog.info? 88).map (fun i => (i.zero, i.size, i.bytes)) = some (some (.int .i64 0), 1, 8) := by kernel_rfl

set_option maxRecDepth 100000 in
set_option maxHeartbeats 1000000 in
theorem of_any (n : Nat) (hn : n ≤ 100) (t : Int) (w : World) : Calls Try.prog 75 #[.int .i64 (n : Int), .int .i64 t] w (IsList (List.replicate n t) w) := by
  obtain ⟨i0, hi, hz0, hz1, hz2⟩ := info_parts info_type
  go_enter Try.func75, Try.ntmps75
  go_wp2
  go_loopw [5, 6] (fun v i wr => ∃ k : Nat, k ≤ n ∧ i = .int .i64 k ∧ wr.ownsRow w.heap.size 88 1 v k ((List.replicate k t).map fun x => Value.int .i64 x) ∧ Below w.heap.size w wr) (fun _ i _ => n - (intOf i).toNat)
  case atStart => exact ⟨0, Nat.zero_le _, rfl, World.ownsRow_nil _ _ _ _, Below.refl _ _⟩
  case round =>
    obtain ⟨k, hk, rfl, hown, hbw⟩ := hrel
    by_cases hlt : k < n
    · go_wp2_with (first
        | (at_builtin; go_must (refine wpList_append_own _ rfl _ _ 43 rfl w.heap.size 88 i0 (.int .i64 0) 1 8 Try.underlying43 hi hz0 hz1 hz2 rfl (by decide) _ _ _ rfl (hown.alloc _) ⟨wr.heap.size, 0, none⟩ 1 1 [.int .i64 t] rfl rfl (cell_one_new _ _ _) (fun x hx => by simp at hx; subst hx; rfl) (by unfold maxLen; omega) (by omega) (by have := hbw.size; simp; omega) ?_); intro v' w3 hown' hgrow3 hnil3
           have X : Hid (w3.ownsRow w.heap.size 88 1 v' (k + 1) ((List.replicate (k + 1) t).map fun x => Value.int .i64 x) ∧ Below w.heap.size w w3) := ⟨by rw [List.replicate_succ', List.map_append]; exact hown', Below.grown (hbw.alloc hbw.size _) hgrow3 (by have := hbw.size; simp; omega) (fun j hj => (hown.lt _ hj).1)⟩
           clear hown' hgrow3 hnil3))
      go_roundw
      case rel => exact ⟨k + 1, by omega, by go_num, X.out.1, X.out.2⟩
      case measure => simp [intOf]; omega
    · obtain rfl : k = n := by omega
      obtain ⟨A, c, hv, hs⟩ := SlR.of_own (bytes := 8) (f := fun x => Value.int .i64 x) hown (by unfold reachBytes; omega)
      subst hv
      clear hown
      go_wp2
      go_ret
      exact ⟨_, _, _, rfl, hs, hbw⟩
end Go.Proofs.Ytnnpgljmfjemnaa
