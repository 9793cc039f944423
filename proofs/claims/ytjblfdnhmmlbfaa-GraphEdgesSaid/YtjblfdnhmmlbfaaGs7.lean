/-
  Graphs of programs: whom a function calls; the chapter's example holds.
-/
import Derived.Test.YtjblfdnhmmlbfaaGs6
namespace Go.Proofs.Ytjblfdnhmmlbfaa
open Go.RowKit Go.Maps
set_option linter.unusedSimpArgs false
set_option linter.unusedVariables false
theorem SlI.one (w : World) (v : Int) (t : TypeId) : SlI (w.alloc (.cells #[.int .i64 v] t)) (w.alloc (.cells #[.int .i64 v] t)).heap.size (some ⟨w.heap.size, 0, none⟩) 1 1 [v] :=
  slr_of_cells (f := fun x : Int => [Value.int .i64 x]) (xs := [v]) (fun _ => rfl) (Cells.new w [.int .i64 v] t) rfl (by simp) (by unfold maxLen; omega) (by unfold reachBytes; omega)

set_option maxRecDepth 100000 in
set_option maxHeartbeats 2000000 in
theorem callees_any (B : Nat) (FA : Option Addr) (fn fc : Nat) (codes : List (List DInstr)) (f : Int) (w : World) (h : PgW w B FA fn fc codes) (hB : B ≤ w.heap.size) (hfn : fn ≤ 50) (hS : ∀ C ∈ codes, C.length ≤ 150) :
    Calls Try.prog 10 #[.agg #[.slice FA fn fc], .int .i64 f] w (IsRow2 (toM codes f [23]) w) := by
  obtain ⟨w1, hw1⟩ : ∃ X, w.alloc (.cells #[.slice FA fn fc] 24) = X := ⟨_, rfl⟩
  obtain ⟨w2, hw2⟩ : ∃ X, w1.alloc (.cells #[.int .i64 23] 34) = X := ⟨_, rfl⟩
  have hb1 : Below w.heap.size w w1 := by rw [← hw1]; exact bl_one _
  have hb2 : Below w.heap.size w w2 := by rw [← hw2]; exact hb1.alloc hb1.size _
  have HB2 := Lib.hid hb2
  have q0 : w1.cell? ⟨w.heap.size, 0, none⟩ = some (.slice FA fn fc) := by rw [← hw1]; exact (Cells.new w [.slice FA fn fc] _).at_ 0 _ rfl
  have cL := Lib.hid (led_any B FA fn fc codes f (some ⟨w1.heap.size, 0, none⟩) 1 1 [23] w2 (h.keep (hb2.mono hB)) (by have := hb2.size; omega) hfn hS (by rw [← hw2]; exact SlI.one w1 23 _) (by omega))
  clear h hb1 hb2 hS
  go_enter Try.func10, Try.ntmps10
  go_wp2_with fail
  refine cL.out.mono ?_
  rintro e w3 ⟨A, m, c, rfl, hm, ho, hb3⟩
  have HO := Lib.hid ho
  have HB3 : Hid (Below w.heap.size w w3) := Lib.hid (HB2.out.trans (hb3.mono HB2.out.size))
  have HS2 := Lib.hid HB2.out.size
  clear ho hb3 cL
  go_wp2_with fail
  go_ret
  exact ⟨A, m, c, rfl, hm, own_less HO.out HS2.out, HB3.out⟩

def cd2 : List (List DInstr) := [[⟨23, 1⟩, ⟨23, 1⟩, ⟨25, 0⟩], [⟨25, 0⟩]]
theorem cd2_small : ∀ C ∈ cd2, C.length ≤ 150 := by decide
theorem cd2_target : targetM cd2 0 1 = (1, true) := by decide
theorem cd2_sites : sitesM cd2 0 = [0, 1] := by decide
theorem cd2_callers : callersUpto cd2 1 2 = [(0, 0), (0, 1)] := by decide
theorem cd2_to : toM cd2 0 [23] = [1] := by decide
theorem two_is (w : World) : Calls Try.prog 15 #[] w fun e w' => ∃ A c, e = .returned (.agg #[.slice A 2 c]) ∧ PgW w' w'.heap.size A 2 c cd2 ∧ Below w.heap.size w w' := two_any w
set_option maxRecDepth 100000 in
set_option maxHeartbeats 4000000 in
theorem graph_lives (w : World) : Calls Try.prog 5 #[] w fun e w' => e = .returned (.bool true) ∧ Below w.heap.size w w' := by
  have cT := Lib.hid two_is
  go_enter Try.func5, Try.ntmps5
  go_wp2_with fail
  refine (cT.out w).mono ?_
  rintro e w1 ⟨A1, c1, rfl, hp1, hb1⟩
  have HB1 := Lib.hid hb1
  have c1' := Lib.hid (callees_any w1.heap.size A1 2 c1 cd2 0 w1 hp1 (Nat.le_refl _) (by omega) cd2_small)
  rw [cd2_to] at c1'
  clear hp1 hb1
  go_wp2_with fail
  refine c1'.out.mono ?_
  rintro e w2 ⟨A2, m2, c2, rfl, hm2, ho2, hb2⟩
  obtain rfl : m2 = 1 := by have := ho2.1; simpa [rowI] using this.symm
  obtain ⟨b2, off2, rfl, hb2B, hcell⟩ := (SlI.own ho2 (by omega)).getD (show 0 < 1 by omega) 0
  have HCL : Hid (∀ W, Below w2.heap.size w2 W → W.cell? ⟨b2, off2, none⟩ = some (.int .i64 1)) := Lib.hid fun W hW => (hW.cell (p := ⟨b2, off2, none⟩) hb2B).trans (by simpa using hcell)
  have HB2 : Hid (Below w.heap.size w w2) := Lib.hid (HB1.out.trans (hb2.mono HB1.out.size))
  clear hb2 ho2 c1' hb2B hcell
  go_wp2_with fail
  refine (cT.out w2).mono ?_
  rintro e w3 ⟨A3, c3, rfl, hp3, hb3⟩
  have HB3 : Hid (Below w2.heap.size w2 w3) := Lib.hid hb3
  have cX := Lib.hid (target_any w3.heap.size A3 2 c3 cd2 0 1 w3 hp3 (Nat.le_refl _))
  rw [cd2_target] at cX
  clear hp3 hb3
  go_wp2_with fail
  refine cX.out.mono ?_
  rintro e w4 ⟨rfl, hb4⟩
  have HB4 : Hid (Below w2.heap.size w2 w4) := Lib.hid (HB3.out.trans (hb4.mono HB3.out.size))
  have q0 := HCL.out w4 HB4.out
  clear hb4 cX
  go_wp2_with fail
  refine (cT.out w4).mono ?_
  rintro e w5 ⟨A5, c5, rfl, hp5, hb5⟩
  have HB5 : Hid (Below w2.heap.size w2 w5) := Lib.hid (HB4.out.trans (hb5.mono HB4.out.size))
  have cS := Lib.hid (sites_any w5.heap.size A5 2 c5 cd2 0 w5 hp5 (Nat.le_refl _))
  rw [cd2_sites] at cS
  clear hp5 hb5 q0
  go_wp2_with fail
  refine cS.out.mono ?_
  rintro e w6 ⟨A6, m6, c6, rfl, _, ho6, hb6⟩
  obtain rfl : m6 = 2 := by have := ho6.1; simpa [rowI] using this.symm
  have HB6 : Hid (Below w2.heap.size w2 w6) := Lib.hid (HB5.out.trans (hb6.mono HB5.out.size))
  clear hb6 ho6 cS
  go_wp2_with fail
  refine (cT.out w6).mono ?_
  rintro e w7 ⟨A7, c7, rfl, hp7, hb7⟩
  have HB7 : Hid (Below w2.heap.size w2 w7) := Lib.hid (HB6.out.trans (hb7.mono HB6.out.size))
  have cC := Lib.hid (callers_any w7.heap.size A7 2 c7 cd2 1 w7 hp7 (Nat.le_refl _) (by omega) cd2_small)
  rw [cd2_callers] at cC
  clear hp7 hb7
  go_wp2_with fail
  refine cC.out.mono ?_
  rintro e w8 ⟨A8, m8, c8, rfl, _, ho8, hb8⟩
  obtain rfl : m8 = 2 := by have := ho8.1; simp [rowS, cellsP] at this; omega
  have HB8 : Hid (Below w.heap.size w w8) := Lib.hid (HB2.out.trans ((HB7.out.trans (hb8.mono HB7.out.size)).mono HB2.out.size))
  clear hb8 ho8 cC
  go_wp2_with fail
  go_ret
  exact ⟨rfl, HB8.out⟩
end Go.Proofs.Ytjblfdnhmmlbfaa
