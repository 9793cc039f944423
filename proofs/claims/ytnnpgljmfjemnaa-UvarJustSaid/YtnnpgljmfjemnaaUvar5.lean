/-
  Numbers as few bytes: the example.
-/
import Derived.Test.YtnnpgljmfjemnaaUvar4
namespace Go.Proofs.Ytnnpgljmfjemnaa
open Go.RowKit
set_option linter.unusedSimpArgs false
set_option linter.unusedVariables false

theorem isBytes_of {l : List Nat} {w w' : World} {v : Value} (hl : 0 < l.length) (h : w'.ownsRow w.heap.size 5 1 v l.length (rowB l)) (hb : Below w.heap.size w w') : IsBytes l w (.returned v) w' := by
  have h' := h
  rcases h.2 with ⟨_, h0⟩ | ⟨g', cap', cur, hv, _⟩
  · omega
  · subst hv
    exact ⟨g', cap', rfl, h', hb⟩
theorem uvar_Put_nil (n : Nat) (hn : n < 18446744073709551616) (w : World) : Calls Try.prog 65 #[.slice none 0 0, .int .u64 (n : Int)] w (IsBytes (putM n) w) := by
  refine (uvar_Put_any w.heap.size 0 _ [] n w hn (by omega) (Nat.le_refl _) (World.ownsRow_nil _ _ _ _)).mono fun e w' ⟨v, he, hown, hb⟩ => ?_
  subst he
  refine isBytes_of (putF_len 9 n).1 ?_ hb
  simpa using hown
set_option maxHeartbeats 400000 in
theorem uvar_PutInt_nil (n : Int) (h : -9223372036854775808 ≤ n ∧ n ≤ 9223372036854775807) (w : World) : Calls Try.prog 61 #[.slice none 0 0, .int .i64 n] w (IsBytes (putM (foldM n)) w) := by
  have hf := fold_lt h
  have c1 : ∀ w : World, Hid (Calls Try.prog 63 #[.int .i64 n] w fun e w' => e = .returned (.int .u64 ((foldM n : Nat) : Int)) ∧ w = w') := fun w => uvar_Fold_any n h w
  have c2 : ∀ w : World, Hid (Calls Try.prog 65 #[.slice none 0 0, .int .u64 ((foldM n : Nat) : Int)] w (IsBytes (putM (foldM n)) w)) := fun w => uvar_Put_nil _ hf w
  clear h hf
  obtain ⟨u, hu⟩ : ∃ u, foldM n = u := ⟨_, rfl⟩
  rw [hu] at c1 c2 ⊢
  clear hu
  obtain ⟨l, hl⟩ : ∃ l, putM u = l := ⟨_, rfl⟩
  rw [hl] at c2 ⊢
  clear hl
  go_enter Try.func61, Try.ntmps61
  go_wp2_with fail
  refine Calls.mono (c1 _).out ?_
  rintro e w' ⟨rfl, rfl⟩
  go_wp2_with fail
  refine Calls.mono (c2 _).out ?_
  rintro e w' ⟨g, cap, rfl, hown, hb⟩
  go_wp2_with fail
  go_ret
  exact ⟨g, cap, rfl, hown, hb⟩

theorem slb_new (w : World) (cs : Array Value) (l : List Nat) (t : TypeId) (h : cs.toList = rowB l) (hl : l.length ≤ 1000) (hb : ∀ b ∈ l, b < 256) :
    SlB (w.alloc (.cells cs t)) (w.heap.size + 1) (some ⟨w.heap.size, 0, none⟩) l.length l.length l := by
  refine ⟨⟨rfl, Nat.le_refl _, by unfold maxLen; omega, by simp, fun hn => ⟨_, _, rfl, by omega, fun i x hi => ⟨[.int .u8 (x : Int)], rfl, fun j u hj => ?_, rfl⟩⟩⟩, hb⟩
  have hj0 : j = 0 := by
    have := (List.getElem?_eq_some_iff.1 hj).1
    simp at this
    omega
  subst hj0
  simp at hj
  subst hj
  have hc : (w.alloc (.cells cs t)).cell? ⟨w.heap.size, 0 + (i * 1 + 0), none⟩ = cs[i]? := by rw [show 0 + (i * 1 + 0) = i by omega]; exact cell_of_row _ w.heap.size i cs t (0, 0) (heap_alloc_new w _)
  rw [hc, ← Array.getElem?_toList, h]
  unfold rowB
  rw [List.getElem?_map, hi]
  rfl
theorem slb_own {w : World} {base : Nat} {g cap : Nat} {l : List Nat} (h : w.ownsRow base 5 1 (.slice (some ⟨g, 0, none⟩) l.length cap) l.length (rowB l)) (hb : ∀ b ∈ l, b < 256) : SlB w w.heap.size (some ⟨g, 0, none⟩) l.length cap l := by
  obtain ⟨A, c, hv, hs⟩ := SlR.of_own (bytes := 0) (f := fun b : Nat => Value.int .u8 (b : Int)) (xs := l) h (by simp)
  simp only [Value.slice.injEq, true_and] at hv
  obtain ⟨rfl, rfl⟩ := hv
  exact ⟨hs, hb⟩

theorem getV_ex1 : getV [128, 0] = .tuple #[.int .u64 0, .int .i64 0, .int .i64 4] := by kernel_rfl
theorem getIV_ex2 : getIV (putM (foldM (-7))) = .tuple #[.int .i64 (-7), .int .i64 1, .int .i64 0] := by kernel_rfl
theorem put300 : putM 300 = [172, 2] := by decide
theorem fold1 : foldM (-1) = 1 := by decide

theorem conv_own (W : World) (base : Nat) (g cap : Nat) (l : List Nat) (hb : ∀ b ∈ l, b < 256) (h : W.ownsRow base 5 1 (.slice (some ⟨g, 0, none⟩) l.length cap) l.length (rowB l)) :
    (convert 61 9 (.slice (some ⟨g, 0, none⟩) l.length cap)).run Try.prog W = .ok (.string ⟨(l.map UInt8.ofNat).toArray⟩) W := by
  have hs : (⟨(l.map UInt8.ofNat).toArray⟩ : ByteArray).size = l.length := by simp [ByteArray.size]
  have := Lib.run_convert_whole (P := Try.prog) W 61 5 9 Try.underlying61 Try.underlying5 Try.underlying9 g 0 ⟨(l.map UInt8.ofNat).toArray⟩ (fun i hi => by
    rw [hs] at hi
    have hc := h.cellAt i (by omega)
    rw [Nat.zero_add, hc]
    unfold rowB
    rw [List.getElem?_map, List.getElem?_eq_getElem hi]
    have hbi := hb l[i] (List.getElem_mem hi)
    have hx : (⟨(l.map UInt8.ofNat).toArray⟩ : ByteArray)[i]'(by rw [hs]; exact hi) = UInt8.ofNat l[i] := by simp [ByteArray.getElem_eq_getElem_data]
    rw [hx]
    simp
    omega) cap
  rw [hs] at this
  exact this

theorem conv_two (W : World) (g cap : Nat) (h1 : W.cell? ⟨g, 0, none⟩ = some (.int .u8 172)) (h2 : W.cell? ⟨g, 1, none⟩ = some (.int .u8 2)) :
    (convert 61 9 (.slice (some ⟨g, 0, none⟩) 2 cap)).run Try.prog W = .ok (.string ⟨#[172, 2]⟩) W :=
  Lib.run_convert_whole (P := Try.prog) W 61 5 9 Try.underlying61 Try.underlying5 Try.underlying9 g 0 ⟨#[172, 2]⟩ (fun i hi => by
    match i, hi with
    | 0, _ => exact h1
    | 1, _ => exact h2) cap

end Go.Proofs.Ytnnpgljmfjemnaa
