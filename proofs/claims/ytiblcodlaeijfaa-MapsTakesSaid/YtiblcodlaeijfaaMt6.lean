/-
  The document's cursor: its failure, told outside; its next number. A cursor of any bytes.
-/
import Derived.Test.YtiblcodlaeijfaaMt4
import Derived.Test.YtiblcodlaeijfaaMt5
import Derived.Test.YtiblcodlaeijfaaHeld
import Derived.Test.YtiblcodlaeijfaaApp
import Derived.Test.YtiblcodlaeijfaaMtN
import Derived.RegionTactic
namespace Go.Proofs.Ytiblcodlaeijfaa
open Go.RowKit
set_option linter.unusedSimpArgs false
set_option linter.unusedVariables false
theorem ref_Fail (A : Option Addr) (n c e x : Nat) (w : World) : Calls Try.prog 17 #[curV A n c e, .int .i64 (x : Int)] w fun e' w' => e' = .returned (curV A n c (failM e x)) ∧ Below w.heap.size w w' := by
  obtain ⟨w0, hw0⟩ : ∃ y, (w.alloc (.cells #[.slice A n c, .int .i64 (e : Int)] 29)).alloc (.cells #[.slice none 0 0, .int .i64 0] 29) = y := ⟨_, rfl⟩
  have hb0 : Below w.heap.size w w0 := by rw [← hw0]; exact ((Below.refl _ _).alloc (Nat.le_refl _) _).alloc (by simp) _
  have hs0 : w0.heap.size = w.heap.size + 2 := by rw [← hw0]; simp
  have z : ∀ j u, #[Value.slice none 0 0, .int .i64 0][j]? = some u → w0.cell? ⟨w.heap.size + 1, j, none⟩ = some u ∧ w0.frozen? ⟨w.heap.size + 1, j, none⟩ = false := fun j u hu => by
    rw [← hw0]
    have := new_cells (w := w.alloc (.cells #[.slice A n c, .int .i64 (e : Int)] 29)) (cs := #[Value.slice none 0 0, .int .i64 0]) (t := 29) (Below.refl _ _) j u hu
    simpa using this
  have cF := Lib.hid (ref_fail0 A n c e x w0)
  have HB := Lib.hid hb0
  have HE := Lib.hid hw0
  have HZ := Lib.hid z
  clear z hb0 hw0
  unfold curV at *
  generalize failM e x = e2 at *
  go_enter Try.func17, Try.ntmps17
  go_wp2_with fail
  rw [HE.out]
  refine cF.out.mono ?_
  rintro e' w1 ⟨rfl, hb1⟩
  have hl : w.heap.size + 1 < w0.heap.size := by omega
  have z0 := (hb1.cell (p := ⟨w.heap.size + 1, 0, none⟩) hl).trans (HZ.out 0 _ rfl).1
  have z1 := (hb1.cell (p := ⟨w.heap.size + 1, 1, none⟩) hl).trans (HZ.out 1 _ rfl).1
  have f0 := (hb1.frozen (p := ⟨w.heap.size + 1, 0, none⟩) hl).trans (HZ.out 0 _ rfl).2
  have f1 := (hb1.frozen (p := ⟨w.heap.size + 1, 1, none⟩) hl).trans (HZ.out 1 _ rfl).2
  have HB1 := Lib.hid (bl_trans HB.out HB.out.size hb1)
  clear hb1
  go_wp2_with fail
  exact bodyPost_ret (v := .agg #[.slice A n c, .int .i64 (e2 : Int)]) (by simp [results, Try.results17, go_sem, z0, z1]) rfl ⟨rfl, by repeat (first | exact HB1.out | (refine Below.setCell ?_ (by simp) _))⟩
end Go.Proofs.Ytiblcodlaeijfaa
