import Derived.Test.YtobmjnmcjddhcaaGreatCFiG
set_option linter.unusedSimpArgs false
set_option linter.unusedVariables false
namespace Go.Proofs.YtobmjnmcjddhcaaGreat
open Go.RowKit
def u64At (W : World) (a : Addr) : Nat := match W.cell? a with
 | some (.int .u64 v) => v.toNat
 | _ => 0
def rdW (W : World) (ob i : Nat) : W4 := ⟨u64At W ⟨ob, i * 4, none⟩, u64At W ⟨ob, i * 4 + 1, none⟩, u64At W ⟨ob, i * 4 + 2, none⟩, u64At W ⟨ob, i * 4 + 3, none⟩⟩
def tabW (W : World) (ob n : Nat) : List W4 := (List.range n).map (rdW W ob)
theorem rdW_of {W : World} {ob : Nat} {l : List W4} (h : Cells W ob (l.flatMap cW)) {i : Nat} {s : W4} (hs : l[i]? = some s) : rdW W ob i = s := by
 obtain ⟨y0, y1, y2, y3⟩ := cW_at h hs
 unfold rdW u64At
 rw [y0, y1, y2, y3]
 rfl
theorem tabW_of {W : World} {ob n : Nat} {l : List W4} (h : Cells W ob (l.flatMap cW)) (hl : l.length = n) : tabW W ob n = l := by
 unfold tabW
 refine List.ext_getElem? fun i => ?_
 rw [List.getElem?_map]
 by_cases hi : i < n
 ·rw [List.getElem?_range hi]
  obtain ⟨s, hs⟩ : ∃ s, l[i]? = some s := ⟨_, List.getElem?_eq_getElem (by omega)⟩
  rw [hs]
  exact congrArg some (rdW_of h hs)
 ·rw [List.getElem?_eq_none (by simpa using hi), List.getElem?_eq_none (by omega)]
  rfl
def muT (W : World) (ob n : Nat) : Nat := 256 * n - sumW (tabW W ob n)
theorem muT_of {W : World} {ob n : Nat} {l : List W4} (h : Cells W ob (l.flatMap cW)) (hl : l.length = n) : muT W ob n = 256 * n - sumW l := by unfold muT; rw [tabW_of h hl]
theorem cW_len (l : List W4) : (l.flatMap cW).length = 4 * l.length := by
 induction l with
 | nil => rfl
 | cons a l ih => rw [List.flatMap_cons, List.length_append, ih]; simp [cW]; omega
theorem cW_set : ∀ (l : List W4) (i : Nat) (s : W4), (((((l.flatMap cW).set (i * 4) (.int .u64 (s.a0 : Int))).set (i * 4 + 1) (.int .u64 (s.a1 : Int))).set (i * 4 + 2) (.int .u64 (s.a2 : Int))).set (i * 4 + 3) (.int .u64 (s.a3 : Int))) = (l.set i s).flatMap cW
 | [], i, s => by simp
 | a :: l, 0, s => by simp [cW]
 | a :: l, i + 1, s => by
  have ih := cW_set l i s
  have e : ∀ j, (i + 1) * 4 + j = (i * 4 + j) + 1 + 1 + 1 + 1 := fun j => by omega
  rw [List.flatMap_cons, List.set_cons_succ, List.flatMap_cons, ← ih]
  rw [show (i + 1) * 4 = (i * 4) + 1 + 1 + 1 + 1 by omega]
  simp [cW, Nat.add_right_comm]
theorem info_set : (Tryz.prog.info? 216).map (fun i => (i.zero, i.size, i.bytes)) = some (some (.agg #[.int .u64 0, .int .u64 0, .int .u64 0, .int .u64 0]), 4, 32) := by kernel_rfl
theorem made4 (n : Nat) : (madeCells #[.int .u64 0, .int .u64 0, .int .u64 0, .int .u64 0] n).toList = List.replicate n (.int .u64 0) := by
 unfold madeCells
 refine List.ext_getElem? fun i => ?_
 by_cases hi : i < n
 ·have h4 : i % 4 = 0 ∨ i % 4 = 1 ∨ i % 4 = 2 ∨ i % 4 = 3 := by omega
  have e : (#[.int .u64 0, .int .u64 0, .int .u64 0, .int .u64 0] : Array Value)[i % (#[.int .u64 0, .int .u64 0, .int .u64 0, .int .u64 0] : Array Value).size]! = .int .u64 0 := by
   rw [show (#[.int .u64 0, .int .u64 0, .int .u64 0, .int .u64 0] : Array Value).size = 4 from rfl]
   rcases h4 with h | h | h | h <;> (rw [h]; rfl)
  simp [hi]
  simpa using e
 ·rw [List.getElem?_eq_none (by simpa using hi), List.getElem?_eq_none (by simpa using hi)]
theorem zeros_flat (n : Nat) : (List.replicate n zW).flatMap cW = List.replicate (n * 4) (.int .u64 0) := by
 induction n with
 | zero => rfl
 | succ n ih =>
  rw [List.replicate_succ, List.flatMap_cons, ih, show (n + 1) * 4 = n * 4 + 1 + 1 + 1 + 1 by omega]
  simp only [List.replicate_succ]
  rfl
theorem made_set (n : Nat) (hn : n ≤ 1000) : ∃ zc : Array Value, zc.toList = (List.replicate n zW).flatMap cW ∧ ∀ W, (Instr.makeSlice 36 (.int .i64 (n : Int)) (.int .i64 (n : Int))).run Tryz.prog W = .ok (.slice (some ⟨W.heap.size, 0, none⟩) n n) (W.alloc (.cells zc 216)) := by
 obtain ⟨i0, hi, hz0, hz1, hz2⟩ := info_parts info_set
 refine ⟨madeCells (Value.agg #[.int .u64 0, .int .u64 0, .int .u64 0, .int .u64 0]).cells (n * i0.size), ?_, fun W => ?_⟩
 ·rw [hz1, show (Value.agg #[.int .u64 0, .int .u64 0, .int .u64 0, .int .u64 0]).cells = #[.int .u64 0, .int .u64 0, .int .u64 0, .int .u64 0] from by kernel_rfl, made4, zeros_flat]
 ·have := run_make (P := Tryz.prog) W 36 216 i0 _ Tryz.underlying36 hi hz0 .i64 .i64 (n : Int) (n : Int) (by omega) (by omega) (by rw [hz2]; omega) (by omega)
  simpa using this
def ruF (fs : List DFunc) (x : DFunc) : Ru := ⟨nextM x, catchM x, defM x, usesM x, heldM fs x⟩
theorem ruF_ok (fs : List DFunc) (x : DFunc) : (ruF fs x).Ok := ⟨defM_ok x, usesM_ok x, heldM_ok fs x⟩
end Go.Proofs.YtobmjnmcjddhcaaGreat
