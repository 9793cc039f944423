/-
  Graphs of programs: of each function those to which it leads; the document's.
-/
import Derived.Test.YtjblfdnhmmlbfaaGe1
import Derived.Test.YtjblfdnhmmlbfaaGrw
namespace Go.Proofs.Ytjblfdnhmmlbfaa
open Go.RowKit Go.Maps
set_option linter.unusedSimpArgs false
set_option linter.unusedVariables false
def edgesU (codes : List (List DInstr)) (k : Nat) : Gr := (List.range k).map fun i : Nat => toM codes (i : Int) [23, 24]
theorem edgesU_len (codes : List (List DInstr)) (k : Nat) : (edgesU codes k).length = k := by simp [edgesU]
theorem edgesU_row (codes : List (List DInstr)) {k i : Nat} (hi : i < k) : rowG (edgesU codes k) i = toM codes (i : Int) [23, 24] := by
  unfold rowG edgesU
  simp [hi]
def IsEd (codes : List (List DInstr)) (n : Nat) (w : World) (e : Ending) (w' : World) : Prop := ∃ A c, e = .returned (.slice A n c) ∧ GrW w' w'.heap.size A n c (edgesU codes n) ∧ Below w.heap.size w w'
set_option maxRecDepth 100000 in
set_option maxHeartbeats 8000000 in
theorem redges_any (B : Nat) (FA : Option Addr) (fn fc : Nat) (codes : List (List DInstr)) (w : World) (h : PgW w B FA fn fc codes) (hB : B ≤ w.heap.size) (hfn : fn ≤ 50) (hS : ∀ C ∈ codes, C.length ≤ 150) :
    Calls Try.prog 7 #[.agg #[.slice FA fn fc]] w (IsEd codes fn w) := by
  obtain ⟨j0, hj, hy0, hy1, hy2⟩ := info_parts info_intsl
  have HL : Hid (codes.length = fn) := Lib.hid h.1
  obtain ⟨w1, hw1⟩ : ∃ X, w.alloc (.cells #[.slice FA fn fc] 24) = X := ⟨_, rfl⟩
  obtain ⟨g, hg⟩ : ∃ g, w.heap.size = g := ⟨_, rfl⟩
  have hb1 : Below g w w1 := by rw [← hw1, ← hg]; exact bl_one _
  have EQ : Hid (∀ W, Below w1.heap.size w1 W → W.cell? ⟨g, 0, none⟩ = some (.slice FA fn fc)) := Lib.hid fun W hW => (hW.cell (p := ⟨g, 0, none⟩) (by rw [← hw1]; simp; omega)).trans (by rw [← hw1, ← hg]; exact (Cells.new w [.slice FA fn fc] _).at_ 0 _ rfl)
  have HBW : Hid (∀ W, Below w1.heap.size w1 W → Below g w W ∧ g ≤ W.heap.size) := Lib.hid fun W hW => by
    have h1 := hb1.size
    have h2 : Below g w W := hb1.trans (hW.mono (by omega))
    exact ⟨h2, by have := h2.size; omega⟩
  have hgE : Hid (w.heap.size = g ∧ B ≤ g) := Lib.hid ⟨hg, by omega⟩
  have cT : Hid (∀ (i : Nat) W, Below w1.heap.size w1 W → Calls Try.prog 11 #[.agg #[.slice FA fn fc], .int .i64 (i : Int), .int .i64 23, .int .i64 24] W (IsRow2 (toM codes (i : Int) [23, 24]) W)) := Lib.hid fun i W hW => to_any B FA fn fc codes (i : Int) 23 24 W (h.keep ((HBW.out W hW).1.mono (by omega))) (by have := (HBW.out W hW).2; omega) hfn hS
  have q0 := EQ.out w1 (Below.refl _ _)
  clear h hB hb1 hS
  go_enter Try.func7, Try.ntmps7
  go_wp2_with fail
  clear hw1 hg q0
  go_loopw [3, 4] (fun ov f wr => ∃ (k : Nat) (A : Option Addr) (c : Nat) (V : Vs), ov = .slice A k c ∧ f = .int .i64 k ∧ k ≤ fn ∧ Hid (RoW w1.heap.size A k c V (fun i => toM codes (i : Int) [23, 24]) wr ∧ Below w1.heap.size w1 wr)) (fun _ f _ => fn - (intOf f).toNat)
  case atStart => exact ⟨0, none, 0, fun _ => (none, 0, 0), rfl, rfl, Nat.zero_le _, Lib.hid ⟨RoW.start _ _ _ _, Below.refl _ _⟩⟩
  case round =>
    obtain ⟨k, A, c, V, rfl, rfl, hk, HK⟩ := hrel
    have q0 := EQ.out wr HK.out.2
    have hk0 : (0 : Int) ≤ (k : Int) := by omega
    have HBZ : Hid (w1.heap.size ≤ wr.heap.size) := Lib.hid HK.out.2.size
    by_cases hlt : k < fn
    · have hkn : (k : Int) < (fn : Int) := by omega
      have cK := Lib.hid (cT.out k wr HK.out.2)
      go_wp2_with (first
        | fail)
      refine cK.out.mono ?_
      rintro e w3 ⟨A2, m, c2, rfl, hm, ho, hb3⟩
      have HO : Hid (w3.ownsRow w1.heap.size 3 1 (svV (A2, m, c2)) m (rowI (toM codes (k : Int) [23, 24]))) := Lib.hid (own_less ho HBZ.out)
      have HNA : Hid (∀ b, (svV (A2, m, c2)).ownBlock = some b → (Value.slice A k c).ownBlock ≠ some b) := Lib.hid fun b hb e => by
        have h1 := (ho.lt b hb).1
        have h2 := (HK.out.1.own.lt b e).2
        omega
      have HR := Lib.hid (HK.out.1.on hb3)
      have HB3 : Hid (Below w1.heap.size w1 w3) := Lib.hid (HK.out.2.trans (hb3.mono HBZ.out))
      have HZ3 : Hid (w1.heap.size ≤ w3.heap.size) := Lib.hid HB3.out.size
      have hsrc := Lib.hid (row_src w3 #[svV (A2, m, c2)] 30 1 rfl)
      clear ho hb3 cK q0
      go_wp2_with (first
        | (at_builtin; go_must (refine wpList_append_src _ rfl _ _ 27 rfl w1.heap.size 30 j0 (.slice none 0 0) 1 24 Try.underlying27 hj hy0 hy1 hy2 rfl (by decide) _ _ _ rfl (HR.out.own.alloc _) (some ⟨w3.heap.size, 0, none⟩) 1 1 [svV (A2, m, c2)] rfl hsrc.out (one_sv _) (by unfold maxLen; omega) (by omega) (by have := HZ3.out; simp; omega) ?_)
           intro v' w4 hown' hgrow3 hat3
           obtain ⟨A', c', rfl, XM, XK⟩ := HR.out.push (x := (A2, m, c2)) (l := toM codes (k : Int) [23, 24]) HO.out HNA.out hown' hgrow3 hat3
           rw [upd_self (fun i : Nat => toM codes (i : Int) [23, 24]) k] at XM
           have XMH := Lib.hid XM
           have XB : Hid (Below w1.heap.size w1 w4) := Lib.hid (HB3.out.trans (XK.below HZ3.out (fun b hb => (HR.out.own.lt b hb).1)))
           clear XM XK hown' hgrow3 hat3)
        | fail)
      go_roundw
      case rel => exact ⟨k + 1, A', c', _, rfl, by go_num, by omega, Lib.hid ⟨XMH.out, XB.out⟩⟩
      case measure => simp [intOf]; omega
    · obtain rfl : k = fn := by omega
      go_wp2_with fail
      go_ret
      exact ⟨A, c, rfl, HK.out.1.grw hfn (fun i hi => by have := toM_len codes (i : Int) [23, 24]; have := HL.out; omega) (edgesU_len _ _) (fun i hi => edgesU_row codes hi), by rw [hgE.out.1]; exact (HBW.out wr HK.out.2).1⟩
end Go.Proofs.Ytjblfdnhmmlbfaa
