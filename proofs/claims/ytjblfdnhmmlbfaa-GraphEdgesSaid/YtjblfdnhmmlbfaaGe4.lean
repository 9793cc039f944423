/-
  Graphs of programs: the functions that a function defers.
-/
import Derived.Test.YtjblfdnhmmlbfaaGs7
import Derived.Test.YtjblfdnhmmlbfaaGe3
namespace Go.Proofs.Ytjblfdnhmmlbfaa
open Go.RowKit Go.Maps
set_option linter.unusedSimpArgs false
set_option linter.unusedVariables false
set_option maxRecDepth 100000 in
set_option maxHeartbeats 4000000 in
theorem defers_any (B : Nat) (FA : Option Addr) (fn fc : Nat) (codes : List (List DInstr)) (f : Int) (w : World) (h : PgW w B FA fn fc codes) (hB : B ≤ w.heap.size) (hfn : fn ≤ 50) (hS : ∀ C ∈ codes, C.length ≤ 150) :
    Calls Try.prog 12 #[.agg #[.slice FA fn fc], .int .i64 f] w (IsRow2 (toM codes f [24]) w) := by
  obtain ⟨w1, hw1⟩ : ∃ X, w.alloc (.cells #[.slice FA fn fc] 24) = X := ⟨_, rfl⟩
  obtain ⟨w2, hw2⟩ : ∃ X, w1.alloc (.cells #[.int .i64 24] 34) = X := ⟨_, rfl⟩
  have hb1 : Below w.heap.size w w1 := by rw [← hw1]; exact bl_one _
  have hb2 : Below w.heap.size w w2 := by rw [← hw2]; exact hb1.alloc hb1.size _
  have HB2 := Lib.hid hb2
  have q0 : w1.cell? ⟨w.heap.size, 0, none⟩ = some (.slice FA fn fc) := by rw [← hw1]; exact (Cells.new w [.slice FA fn fc] _).at_ 0 _ rfl
  have cL := Lib.hid (led_any B FA fn fc codes f (some ⟨w1.heap.size, 0, none⟩) 1 1 [24] w2 (h.keep (hb2.mono hB)) (by have := hb2.size; omega) hfn hS (by rw [← hw2]; exact SlI.one w1 24 _) (by omega))
  clear h hb1 hb2 hS
  go_enter Try.func12, Try.ntmps12
  go_wp2_with fail
  refine cL.out.mono ?_
  rintro e w3 ⟨A, m, c, rfl, hm, ho, hb3⟩
  have HO := Lib.hid ho
  have HB3 : Hid (Below w.heap.size w w3) := Lib.hid (HB2.out.trans (hb3.mono HB2.out.size))
  have HS2 := Lib.hid HB2.out.size
  clear ho hb3 cL
  go_wp2_with fail
  go_ret
  exact ⟨A, m, c, rfl, hm, own_less HO.out HS2.out, HB3.out⟩

end Go.Proofs.Ytjblfdnhmmlbfaa
