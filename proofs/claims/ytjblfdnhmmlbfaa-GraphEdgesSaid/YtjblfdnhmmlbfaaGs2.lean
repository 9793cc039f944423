/-
  Graphs of programs: the calls of a function; the program's and the document's.
-/
import Derived.Test.YtjblfdnhmmlbfaaGs1
import Derived.Test.YtjblfdnhmmlbfaaRi
namespace Go.Proofs.Ytjblfdnhmmlbfaa
open Go.RowKit
set_option linter.unusedSimpArgs false
set_option linter.unusedVariables false
def siteB (codes : List (List DInstr)) (f : Int) (k : Nat) : Bool := (targetM codes f (k : Int)).2
def sitesUpto (codes : List (List DInstr)) (f : Int) (n : Nat) : List Int := ((List.range n).filter (siteB codes f)).map fun k : Nat => (k : Int)
def sitesM (codes : List (List DInstr)) (f : Int) : List Int := if 0 ≤ f then sitesUpto codes f ((codes[f.toNat]?).getD []).length else []
theorem sites_yes {codes : List (List DInstr)} {f : Int} {k : Nat} (h : (targetM codes f (k : Int)).2 = true) : sitesUpto codes f k ++ [(k : Int)] = sitesUpto codes f (k + 1) := by
  unfold sitesUpto
  rw [List.range_succ, List.filter_append, List.map_append]
  simp [siteB, h]
theorem sites_no {codes : List (List DInstr)} {f : Int} {k : Nat} (h : (targetM codes f (k : Int)).2 = false) : sitesUpto codes f k = sitesUpto codes f (k + 1) := by
  unfold sitesUpto
  rw [List.range_succ, List.filter_append, List.map_append]
  simp [siteB, h]
theorem sitesM_none {codes : List (List DInstr)} {f : Int} (h : ¬ (0 ≤ f ∧ f < (codes.length : Int))) : sitesM codes f = [] := by
  unfold sitesM
  split
  · rw [List.getElem?_eq_none (by omega)]; rfl
  · rfl
theorem sitesM_at {codes : List (List DInstr)} {i : Nat} {C : List DInstr} (h : codes[i]? = some C) : sitesM codes (i : Int) = sitesUpto codes (i : Int) C.length := by
  unfold sitesM
  rw [if_pos (by omega)]
  simp [h]
def IsRow (l : List Int) (w : World) (e : Ending) (w' : World) : Prop := ∃ A m c, e = .returned (.slice A m c) ∧ m * 16 ≤ reachBytes ∧ w'.ownsRow w.heap.size 3 1 (.slice A m c) m (rowI l) ∧ Below w.heap.size w w'

set_option maxRecDepth 100000 in
set_option maxHeartbeats 4000000 in
theorem sites_any (B : Nat) (FA : Option Addr) (fn fc : Nat) (codes : List (List DInstr)) (f : Int) (w : World) (h : PgW w B FA fn fc codes) (hB : B ≤ w.heap.size) :
    Calls Try.prog 17 #[.agg #[.slice FA fn fc], .int .i64 f] w (IsRow (sitesM codes f) w) := by
  obtain ⟨i0, hi, hz0, hz1, hz2⟩ := info_parts info_int
  have HL : Hid (codes.length = fn) := Lib.hid h.1
  obtain ⟨w1, hw1⟩ : ∃ X, w.alloc (.cells #[.slice FA fn fc] 24) = X := ⟨_, rfl⟩
  obtain ⟨g, hg⟩ : ∃ g, w.heap.size = g := ⟨_, rfl⟩
  have hb1 : Below g w w1 := by rw [← hw1, ← hg]; exact bl_one _
  have EQ : Hid (∀ W, Below w1.heap.size w1 W → W.cell? ⟨g, 0, none⟩ = some (.slice FA fn fc)) := Lib.hid fun W hW => (hW.cell (p := ⟨g, 0, none⟩) (by rw [← hw1]; simp; omega)).trans (by rw [← hw1, ← hg]; exact (Cells.new w [.slice FA fn fc] _).at_ 0 _ rfl)
  have HP : Hid (∀ W, Below g w W → PgW W B FA fn fc codes) := Lib.hid fun W hW => h.keep (hW.mono (by omega))
  have HB1 := Lib.hid hb1
  have HBg : Hid (B ≤ g) := Lib.hid (by omega)
  have hgE : Hid (w.heap.size = g) := Lib.hid hg
  have q0 := EQ.out w1 (Below.refl _ _)
  clear h hB
  by_cases hf : 0 ≤ f ∧ f < (fn : Int)
  · have cI := Lib.hid (is_any FA fn fc f true (by rw [eq_comm, decide_eq_true_eq]; exact hf) w1)
    obtain ⟨hf0, hf1⟩ := hf
    obtain ⟨i, rfl⟩ : ∃ i : Nat, f = (i : Int) := ⟨f.toNat, by omega⟩
    obtain ⟨b, off, Ac, nc, cc, C, rfl, hbB, hC, hcell, hsl⟩ := (HP.out w1 HB1.out).at_ (show i < fn by omega)
    have HC : Hid (sitesM codes (i : Int) = sitesUpto codes (i : Int) nc) := Lib.hid (by rw [sitesM_at hC, hsl.1])
    have EC : Hid (∀ W, Below w1.heap.size w1 W → W.cell? ⟨b, off + i * 11 + 6, none⟩ = some (.slice Ac nc cc)) := Lib.hid fun W hW => (hW.cell (p := ⟨b, off + i * 11 + 6, none⟩) (by have := HBg.out; have := HB1.out.size; show b < _; omega)).trans hcell
    have HN : Hid (nc * 16 ≤ reachBytes) := Lib.hid hsl.2.2.2.1
    clear hcell hsl hC hbB hb1
    go_enter Try.func17, Try.ntmps17
    go_wp2_with fail
    refine cI.out.mono ?_
    rintro e w2 ⟨rfl, hb2⟩
    have HB2 : Hid (Below w1.heap.size w1 w2) := Lib.hid hb2
    have q0 := EQ.out w2 hb2
    have q1 := EC.out w2 hb2
    clear hb2 cI
    have hi0 : (0 : Int) ≤ (i : Int) := by omega
    go_wp2_with fail
    clear q0 q1 hw1
    go_loopw [5, 20] (fun o i' wr => ∃ (k m : Nat) (A1 : Option Addr) (c1 : Nat), o = .slice A1 m c1 ∧ i' = .int .i64 k ∧ k ≤ nc ∧ m ≤ k ∧ Hid (wr.ownsRow w1.heap.size 3 1 (.slice A1 m c1) m (rowI (sitesUpto codes (i : Int) k))) ∧ Hid (Below w1.heap.size w1 wr)) (fun _ i' _ => nc - (intOf i').toNat)
    case atStart => exact ⟨0, 0, none, 0, rfl, rfl, Nat.zero_le _, Nat.le_refl _, Lib.hid ⟨rfl, .inl ⟨rfl, rfl⟩⟩, HB2⟩
    case round =>
      obtain ⟨k, m, A1, c1, rfl, rfl, hk, hm, HR, HB⟩ := hrel
      have q0 := EQ.out wr HB.out
      have q1 := EC.out wr HB.out
      have hk0 : (0 : Int) ≤ (k : Int) := by omega
      have hkb : (k : Int) ≤ 10000000000000 := by have := HN.out; unfold reachBytes at this; omega
      by_cases hlt : k < nc
      · have hkn : (k : Int) < (nc : Int) := by omega
        have HBG : Hid (Below g w wr ∧ g ≤ wr.heap.size) := Lib.hid ⟨HB1.out.trans (HB.out.mono (by have := HB1.out.size; have := hgE.out; omega)), by have := HB1.out.size; have := HB.out.size; have := hgE.out; omega⟩
        have cT := Lib.hid (target_any B (some ⟨b, off, none⟩) fn fc codes (i : Int) (k : Int) wr (HP.out wr HBG.out.1) (by have := HBG.out.2; have := HBg.out; omega))
        have HY : Hid ((targetM codes (i : Int) (k : Int)).2 = true → sitesUpto codes (i : Int) k ++ [(k : Int)] = sitesUpto codes (i : Int) (k + 1)) := Lib.hid sites_yes
        have HNo : Hid ((targetM codes (i : Int) (k : Int)).2 = false → sitesUpto codes (i : Int) k = sitesUpto codes (i : Int) (k + 1)) := Lib.hid sites_no
        have hmb : m ≤ k := hm
        obtain ⟨r, hr⟩ : ∃ r, targetM codes (i : Int) (k : Int) = r := ⟨_, rfl⟩
        rw [hr] at cT HY HNo
        clear hr
        obtain ⟨r1, r2⟩ := r
        dsimp only at HY HNo
        go_wp2_with fail
        refine cT.out.mono ?_
        rintro e w3 ⟨rfl, hb3⟩
        have HB3 : Hid (Below w1.heap.size w1 w3) := Lib.hid (HB.out.trans (hb3.mono HB.out.size))
        have HBG3 : Hid (Below g w w3) := Lib.hid (HBG.out.1.trans (hb3.mono HBG.out.2))
        have HR3 : Hid (w3.ownsRow w1.heap.size 3 1 (.slice A1 m c1) m (rowI (sitesUpto codes (i : Int) k))) := Lib.hid (own_keep HR.out hb3)
        have hzb : Hid (g ≤ w3.heap.size) := Lib.hid (by have := HBG.out.2; have := hb3.size; omega)
        have hzs : Hid (w1.heap.size ≤ w3.heap.size) := Lib.hid HB3.out.size
        have hb8 : (m + 1) * 8 ≤ 140737488355328 := by have := HN.out; unfold reachBytes at this; omega
        clear hb3 cT
        have hsrc := Lib.hid (src_int w3 (k : Int))
        cases r2 with
        | true =>
          have HE := Lib.hid (HY.out rfl)
          go_wp2_with (first
            | (at_builtin; go_must (refine wpList_append_src _ rfl _ _ 30 rfl w1.heap.size 3 i0 (.int .i64 0) 1 8 Try.underlying30 hi hz0 hz1 hz2 rfl (by decide) _ _ _ rfl (HR3.out.alloc _) (some ⟨w3.heap.size, 0, none⟩) 1 1 [.int .i64 (k : Int)] rfl hsrc.out (one_int (k : Int)) (by unfold maxLen; omega) hb8 (by have := hzs.out; simp; omega) ?_)
               intro v' w4 hown' hgrow3 hat3
               obtain ⟨A', c', rfl, X1, X2, _⟩ := app_int HB3.out hzs.out HR3.out hown' hgrow3
               have XR := Lib.hid X1
               have XB := Lib.hid X2
               clear X1 X2 hown' hgrow3 hat3)
            | fail)
          go_roundw
          case rel => exact ⟨k + 1, m + 1, A', c', rfl, by go_num, by omega, by omega, Lib.hid (by rw [← HE.out]; exact XR.out), XB⟩
          case measure => simp [intOf]; omega
        | false =>
          have HE := Lib.hid (HNo.out rfl)
          go_wp2_with fail
          go_roundw
          case rel => exact ⟨k + 1, m, A1, c1, rfl, by go_num, by omega, by omega, Lib.hid (by rw [← HE.out]; exact HR3.out), HB3⟩
          case measure => simp [intOf]; omega
      · obtain rfl : k = nc := by omega
        go_wp2_with fail
        go_ret
        exact ⟨A1, m, c1, rfl, by have := HN.out; omega, by rw [HC.out, hgE.out]; exact own_less HR.out (by have := HB1.out.size; have := hgE.out; omega), by rw [hgE.out]; exact HB1.out.trans (HB.out.mono (by have := HB1.out.size; have := hgE.out; omega))⟩
  · have cI := Lib.hid (is_any FA fn fc f false (by rw [eq_comm, decide_eq_false_iff_not]; exact hf) w1)
    have HC : Hid (sitesM codes f = []) := Lib.hid (sitesM_none (by rw [HL.out]; exact hf))
    clear hf hb1
    go_enter Try.func17, Try.ntmps17
    go_wp2_with fail
    refine cI.out.mono ?_
    rintro e w2 ⟨rfl, hb2⟩
    have HB2 : Hid (Below w1.heap.size w1 w2) := Lib.hid hb2
    clear hb2 cI
    go_wp2_with fail
    go_ret
    exact ⟨none, 0, 0, rfl, by simp, by rw [HC.out]; exact ⟨rfl, .inl ⟨rfl, rfl⟩⟩, by rw [hgE.out]; exact HB1.out.trans (HB2.out.mono (by have := HB1.out.size; have := hgE.out; omega))⟩

end Go.Proofs.Ytjblfdnhmmlbfaa
