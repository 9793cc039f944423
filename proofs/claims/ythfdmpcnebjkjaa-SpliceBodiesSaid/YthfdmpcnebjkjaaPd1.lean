/-
  Pieces of bodies, the document's: one instruction more.
-/
import Derived.Test.YthfdmpcnebjkjaaPc2
namespace Go.Proofs.Ythfdmpcnebjkjaa
open Go.RowKit
set_option linter.unusedSimpArgs false
set_option linter.unusedVariables false
def IsAd (base : Nat) (F : Nat → Prop) (k : Nat) (l0 : List DInstr) (l1 l2 : List Int) (v3 v4 : Value) (w : World) (e : Ending) (w' : World) : Prop :=
  ∃ A0 c0 A1 c1 A2 c2, e = .returned (.agg #[.slice A0 k c0, .slice A1 k c1, .slice A2 k c2, v3, v4]) ∧ Rw base F (.slice A0 k c0) (.slice A1 k c1) (.slice A2 k c2) k k k l0 l1 l2 w' ∧ Kp (fun j => ¬ F j) w w'
abbrev FG4 (F : Nat → Prop) (w w3 : World) : Nat → Prop := fun j => F j ∨ (w.heap.size ≤ j ∧ j < w3.heap.size)
theorem Rw.set {base : Nat} {F : Nat → Prop} {u0 u1 u2 : Value} {m0 m1 m2 : Nat} {l0 : List DInstr} {l1 l2 : List Int} {W : World} (h : Rw base F u0 u1 u2 m0 m1 m2 l0 l1 l2 W) {b q : Nat} (hb : F b) (v : Value) : Rw base F u0 u1 u2 m0 m1 m2 l0 l1 l2 (W.setCell ⟨b, q, none⟩ v) :=
  h.kp (kp_set W b q v) (fun j hj e => h.f0 j (by rw [e]; exact hb) hj) (fun j hj e => h.f1 j (by rw [e]; exact hb) hj) (fun j hj e => h.f2 j (by rw [e]; exact hb) hj)
set_option maxRecDepth 100000 in
set_option maxHeartbeats 32000000 in
theorem add_any (base : Nat) (F : Nat → Prop) (k : Nat) (A0 A1 A2 A3 A4 : Option Addr) (c0 c1 c2 n3 c3 n4 c4 : Nat) (l0 : List DInstr) (l1 l2 : List Int) (li nd xo xa : Int) (w : World)
    (hr : Rw base F (.slice A0 k c0) (.slice A1 k c1) (.slice A2 k c2) k k k l0 l1 l2 w) (hk : k ≤ 100000) :
    Calls Try.prog 29 #[.agg #[.slice A0 k c0, .slice A1 k c1, .slice A2 k c2, .slice A3 n3 c3, .slice A4 n4 c4], .agg #[.int .i64 xo, .int .i64 xa], .int .i64 li, .int .i64 nd] w (IsAd base F (k + 1) (l0 ++ [⟨xo, xa⟩]) (l1 ++ [li]) (l2 ++ [nd]) (.slice A3 n3 c3) (.slice A4 n4 c4) w) := by
  obtain ⟨i0, hi, hz0, hz1, hz2⟩ := info_parts info_int
  obtain ⟨j0, hj, hy0, hy1, hy2⟩ := info_parts info_instr
  obtain ⟨g, hg⟩ : ∃ g, w.heap.size = g := ⟨_, rfl⟩
  obtain ⟨w3, hw3⟩ : ∃ X, ((w.alloc (.cells #[.slice A0 k c0, .slice A1 k c1, .slice A2 k c2, .slice A3 n3 c3, .slice A4 n4 c4] 38)).alloc (.cells #[.int .i64 xo, .int .i64 xa] 49)).alloc (.cells #[.slice none 0 0, .slice none 0 0, .slice none 0 0, .slice none 0 0, .slice none 0 0] 38) = X := ⟨_, rfl⟩
  have hz3 : w3.heap.size = g + 1 + 1 + 1 := by rw [← hw3]; simp; omega
  have hb3 : Below w.heap.size w w3 := by rw [← hw3]; exact two_below.trans ((bl_one _).mono (by simp; omega))
  have hcp : Cells w3 g [.slice A0 k c0, .slice A1 k c1, .slice A2 k c2, .slice A3 n3 c3, .slice A4 n4 c4] := by
    rw [← hw3, ← hg]
    exact ((Cells.new w [.slice A0 k c0, .slice A1 k c1, .slice A2 k c2, .slice A3 n3 c3, .slice A4 n4 c4] _).on (bl_one _)).on (bl_one _)
  have hci : Cells w3 (g + 1) [.int .i64 xo, .int .i64 xa] := by
    have z1 : (w.alloc (.cells #[.slice A0 k c0, .slice A1 k c1, .slice A2 k c2, .slice A3 n3 c3, .slice A4 n4 c4] 38)).heap.size = g + 1 := by simp; omega
    rw [← hw3]
    exact (cells_new_at z1 [.int .i64 xo, .int .i64 xa] _).on (bl_one _)
  have hcr : Cells w3 (g + 1 + 1) #[.slice none 0 0, .slice none 0 0, .slice none 0 0, .slice none 0 0, .slice none 0 0].toList := by
    have z2 : ((w.alloc (.cells #[.slice A0 k c0, .slice A1 k c1, .slice A2 k c2, .slice A3 n3 c3, .slice A4 n4 c4] 38)).alloc (.cells #[.int .i64 xo, .int .i64 xa] 49)).heap.size = g + 1 + 1 := by simp; omega
    rw [← hw3]
    exact cells_new_at z2 #[.slice none 0 0, .slice none 0 0, .slice none 0 0, .slice none 0 0, .slice none 0 0].toList _
  have HFg : Hid (FG4 F w w3 g ∧ FG4 F w w3 (g + 1 + 1)) := Lib.hid ⟨.inr ⟨by omega, by omega⟩, .inr ⟨by omega, by omega⟩⟩
  obtain ⟨lb, hlb⟩ : ∃ X, w3.heap.size = X := ⟨_, rfl⟩
  obtain ⟨wa, hwa⟩ : ∃ X, w3.alloc (.cells #[.int .i64 xo, .int .i64 xa] 49) = X := ⟨_, rfl⟩
  have hba : Below w3.heap.size w3 wa := by rw [← hwa]; exact bl_one _
  have HRa : Hid (Rw base (FG4 F w w3) (.slice A0 k c0) (.slice A1 k c1) (.slice A2 k c2) k k k l0 l1 l2 wa) := Lib.hid ((hr.widen hb3).on hba)
  have HCa := Lib.hid (hcp.on hba)
  have HQa := Lib.hid (hcr.on hba)
  have S0 : Hid (SrcCells wa (some ⟨lb, 0, none⟩) 1 2 (cellsI ⟨xo, xa⟩)) := Lib.hid (by rw [← hwa, ← hlb]; exact src_of_cells (Cells.new w3 (cellsI ⟨xo, xa⟩) _) 1 2 rfl)
  have HKa : Hid (Kp (fun j => ¬ F j) w wa) := Lib.hid (((Kp.refl _ w).ofBelow hb3).ofBelow hba)
  have HKW : Hid (∀ a b : World, Kp (fun j => ¬ FG4 F w w3 j) a b → Kp (fun j => ¬ F j) a b) := Lib.hid fun a b h => Kp.less h fun j hj => .inl hj
  have HNF : Hid (¬ F g ∧ ¬ F (g + 1 + 1)) := Lib.hid ⟨fun h => by have := hr.fl _ h; omega, fun h => by have := hr.fl _ h; omega⟩
  have q0 := hcp.at_ 0 _ rfl
  have p0 := hci.at_ 0 _ rfl
  have p1 := hci.at_ 1 _ rfl
  clear hr hcp hci hcr hb3 hba hz3
  go_enter Try.func29, Try.ntmps29
  go_wp2_with (first
    | (at_builtin; (refine wpList_append_src _ rfl _ _ 23 rfl base 49 j0 (.agg #[.int .i64 0, .int .i64 0]) 2 16 Try.underlying23 hj hy0 hy1 hy2 rfl (by decide) _ _ _ rfl HRa.out.r0 (some ⟨lb, 0, none⟩) 1 1 (cellsI ⟨xo, xa⟩) rfl S0.out (oneI _) (by unfold maxLen; omega) (by omega) HRa.out.sz ?_)
       intro v' w4 hown' hgrow hat
       obtain ⟨B0, d0, rfl, _⟩ := own_form hown'
       have h4 := HRa.out.app0 hown' hgrow hat
       have hc4 := HCa.out.kp h4.2 (fun h => h HFg.out.1)
       have hq4 := HQa.out.kp h4.2 (fun h => h HFg.out.2)
       have x0 := hc4.at_ 0 _ rfl
       have f0 := hc4.fz 0 (by simp)
       obtain ⟨w5, hw5⟩ : ∃ X, w4.setCell ⟨g, 0, none⟩ (.slice B0 (k + 1) d0) = X := ⟨_, rfl⟩
       have hc5 : Cells w5 g [.slice B0 (k + 1) d0, .slice A1 k c1, .slice A2 k c2, .slice A3 n3 c3, .slice A4 n4 c4] := by rw [← hw5]; exact hc4.put 0 (by simp) _
       have hq5 : Cells w5 (g + 1 + 1) #[.slice none 0 0, .slice none 0 0, .slice none 0 0, .slice none 0 0, .slice none 0 0].toList := by rw [← hw5]; exact hq4.far (by omega) _
       have hr5 := h4.1.set (q := 0) HFg.out.1 (.slice B0 (k + 1) d0)
       rw [hw5] at hr5
       have x1 := hc5.at_ 1 _ rfl
       obtain ⟨lb1, hlb1⟩ : ∃ X, w5.heap.size = X := ⟨_, rfl⟩
       obtain ⟨w6, hw6⟩ : ∃ X, w5.alloc (.cells #[.int .i64 li] 3) = X := ⟨_, rfl⟩
       have hb6 : Below w5.heap.size w5 w6 := by rw [← hw6]; exact bl_one _
       have HR6 := Lib.hid (hr5.on hb6)
       have HC6 := Lib.hid (hc5.on hb6)
       have HQ6 := Lib.hid (hq5.on hb6)
       have S1 : Hid (SrcCells w6 (some ⟨lb1, 0, none⟩) 1 1 [.int .i64 li]) := Lib.hid (by rw [← hw6, ← hlb1]; exact src_of_cells (Cells.new w5 [.int .i64 li] _) 1 1 rfl)
       have HK6 : Hid (Kp (fun j => ¬ F j) w w6) := Lib.hid (by
         have k5 : Kp (fun j => ¬ F j) w w5 := by rw [← hw5]; exact (HKa.out.trans (HKW.out _ _ h4.2)).setCell (p := ⟨g, 0, none⟩) (fun _ => HNF.out.1) _
         exact k5.ofBelow hb6)
       clear hown' hgrow hat h4 hc4 hq4 hc5 hq5 hr5 hb6)
    | (at_builtin; (refine wpList_append_src _ rfl _ _ 24 rfl base 3 i0 (.int .i64 0) 1 8 Try.underlying24 hi hz0 hz1 hz2 rfl (by decide) _ _ _ rfl HR6.out.r1 (some ⟨lb1, 0, none⟩) 1 1 [.int .i64 li] rfl S1.out (one_int li) (by unfold maxLen; omega) (by omega) HR6.out.sz ?_)
       intro v' w7 hown' hgrow hat
       obtain ⟨B1, d1, rfl, _⟩ := own_form hown'
       have h7 := HR6.out.app1 hown' hgrow hat
       have hc7 := HC6.out.kp h7.2 (fun h => h HFg.out.1)
       have hq7 := HQ6.out.kp h7.2 (fun h => h HFg.out.2)
       have y1 := hc7.at_ 1 _ rfl
       have f1 := hc7.fz 1 (by simp)
       obtain ⟨w8, hw8⟩ : ∃ X, w7.setCell ⟨g, 1, none⟩ (.slice B1 (k + 1) d1) = X := ⟨_, rfl⟩
       have hc8 : Cells w8 g [.slice B0 (k + 1) d0, .slice B1 (k + 1) d1, .slice A2 k c2, .slice A3 n3 c3, .slice A4 n4 c4] := by rw [← hw8]; exact hc7.put 1 (by simp) _
       have hq8 : Cells w8 (g + 1 + 1) #[.slice none 0 0, .slice none 0 0, .slice none 0 0, .slice none 0 0, .slice none 0 0].toList := by rw [← hw8]; exact hq7.far (by omega) _
       have hr8 := h7.1.set (q := 1) HFg.out.1 (.slice B1 (k + 1) d1)
       rw [hw8] at hr8
       have y2 := hc8.at_ 2 _ rfl
       obtain ⟨lb2, hlb2⟩ : ∃ X, w8.heap.size = X := ⟨_, rfl⟩
       obtain ⟨w9, hw9⟩ : ∃ X, w8.alloc (.cells #[.int .i64 nd] 3) = X := ⟨_, rfl⟩
       have hb9 : Below w8.heap.size w8 w9 := by rw [← hw9]; exact bl_one _
       have HR9 := Lib.hid (hr8.on hb9)
       have HC9 := Lib.hid (hc8.on hb9)
       have HQ9 := Lib.hid (hq8.on hb9)
       have S2 : Hid (SrcCells w9 (some ⟨lb2, 0, none⟩) 1 1 [.int .i64 nd]) := Lib.hid (by rw [← hw9, ← hlb2]; exact src_of_cells (Cells.new w8 [.int .i64 nd] _) 1 1 rfl)
       have HK9 : Hid (Kp (fun j => ¬ F j) w w9) := Lib.hid (by
         have k8 : Kp (fun j => ¬ F j) w w8 := by rw [← hw8]; exact (HK6.out.trans (HKW.out _ _ h7.2)).setCell (p := ⟨g, 1, none⟩) (fun _ => HNF.out.1) _
         exact k8.ofBelow hb9)
       clear hown' hgrow hat h7 hc7 hq7 hc8 hq8 hr8 hb9)
    | (at_builtin; (refine wpList_append_src _ rfl _ _ 24 rfl base 3 i0 (.int .i64 0) 1 8 Try.underlying24 hi hz0 hz1 hz2 rfl (by decide) _ _ _ rfl HR9.out.r2 (some ⟨lb2, 0, none⟩) 1 1 [.int .i64 nd] rfl S2.out (one_int nd) (by unfold maxLen; omega) (by omega) HR9.out.sz ?_)
       intro v' w10 hown' hgrow hat
       obtain ⟨B2, d2, rfl, _⟩ := own_form hown'
       have h10 := HR9.out.app2 hown' hgrow hat
       have hc10 := HC9.out.kp h10.2 (fun h => h HFg.out.1)
       have hq10 := HQ9.out.kp h10.2 (fun h => h HFg.out.2)
       have z0 := hc10.at_ 0 _ rfl
       have z1 := hc10.at_ 1 _ rfl
       have z2 := hc10.at_ 2 _ rfl
       have z3 := hc10.at_ 3 _ rfl
       have z4 := hc10.at_ 4 _ rfl
       have f2 := hc10.fz 2 (by simp)
       have r0 := hq10.at_ 0 _ rfl
       have r1 := hq10.at_ 1 _ rfl
       have r2 := hq10.at_ 2 _ rfl
       have r3 := hq10.at_ 3 _ rfl
       have r4 := hq10.at_ 4 _ rfl
       have fr0 := hq10.fz 0 (by simp)
       have fr1 := hq10.fz 1 (by simp)
       have fr2 := hq10.fz 2 (by simp)
       have fr3 := hq10.fz 3 (by simp)
       have fr4 := hq10.fz 4 (by simp)
       have HR10 := Lib.hid h10.1
       have HQ10 := Lib.hid hq10
       have HK10 : Hid (Kp (fun j => ¬ F j) w w10) := Lib.hid (HK9.out.trans (HKW.out _ _ h10.2))
       clear hown' hgrow hat h10 hc10 hq10)
    | fail)
  clear f2 fr0 fr1 fr2 fr3 fr4 r0 r1 r2 r3 r4 z0 z1 z2 z3 z4 x0 x1 y1 y2 f0 f1 q0 p0 p1
  obtain ⟨w11, hw11⟩ : ∃ X, (((((w10.setCell ⟨g, 2, none⟩ (.slice B2 (k + 1) d2)).setCell ⟨g + 1 + 1, 0, none⟩ (.slice B0 (k + 1) d0)).setCell ⟨g + 1 + 1, 1, none⟩ (.slice B1 (k + 1) d1)).setCell ⟨g + 1 + 1, 2, none⟩ (.slice B2 (k + 1) d2)).setCell ⟨g + 1 + 1, 3, none⟩ (.slice A3 n3 c3)).setCell ⟨g + 1 + 1, 4, none⟩ (.slice A4 n4 c4) = X := ⟨_, rfl⟩
  have hc11 : Cells w11 (g + 1 + 1) [.slice B0 (k + 1) d0, .slice B1 (k + 1) d1, .slice B2 (k + 1) d2, .slice A3 n3 c3, .slice A4 n4 c4] := by
    rw [← hw11]
    exact ((((((HQ10.out.far (g := g) (q := 2) (by omega) (.slice B2 (k + 1) d2)).put 0 (by simp) _).put 1 (by simp) _).put 2 (by simp) _).put 3 (by simp) _).put 4 (by simp) _)
  have hro : Rw base (FG4 F w w3) (.slice B0 (k + 1) d0) (.slice B1 (k + 1) d1) (.slice B2 (k + 1) d2) (k + 1) (k + 1) (k + 1) (l0 ++ [⟨xo, xa⟩]) (l1 ++ [li]) (l2 ++ [nd]) w11 := by
    rw [← hw11]
    exact (((((HR10.out.set (q := 2) HFg.out.1 _).set (q := 0) HFg.out.2 _).set (q := 1) HFg.out.2 _).set (q := 2) HFg.out.2 _).set (q := 3) HFg.out.2 _).set (q := 4) HFg.out.2 _
  have hkp : Kp (fun j => ¬ F j) w w11 := by
    rw [← hw11]
    exact (((((HK10.out.setCell (p := ⟨g, 2, none⟩) (fun _ => HNF.out.1) _).setCell (p := ⟨g + 1 + 1, 0, none⟩) (fun _ => HNF.out.2) _).setCell (p := ⟨g + 1 + 1, 1, none⟩) (fun _ => HNF.out.2) _).setCell (p := ⟨g + 1 + 1, 2, none⟩) (fun _ => HNF.out.2) _).setCell (p := ⟨g + 1 + 1, 3, none⟩) (fun _ => HNF.out.2) _).setCell (p := ⟨g + 1 + 1, 4, none⟩) (fun _ => HNF.out.2) _
  rw [hw11]
  have x0 := hc11.at_ 0 _ rfl
  have x1 := hc11.at_ 1 _ rfl
  have x2 := hc11.at_ 2 _ rfl
  have x3 := hc11.at_ 3 _ rfl
  have x4 := hc11.at_ 4 _ rfl
  have HFIN : Hid (IsAd base F (k + 1) (l0 ++ [⟨xo, xa⟩]) (l1 ++ [li]) (l2 ++ [nd]) (.slice A3 n3 c3) (.slice A4 n4 c4) w (.returned (.agg #[.slice B0 (k + 1) d0, .slice B1 (k + 1) d1, .slice B2 (k + 1) d2, .slice A3 n3 c3, .slice A4 n4 c4])) w11) := Lib.hid ⟨_, _, _, _, _, _, rfl, hro.less (fun j hj => .inl hj), hkp⟩
  clear hc11 hro hkp hw11
  exact bodyPost_ret (v := .agg #[.slice B0 (k + 1) d0, .slice B1 (k + 1) d1, .slice B2 (k + 1) d2, .slice A3 n3 c3, .slice A4 n4 c4]) (by simp [results, Try.results29, go_sem, x0, x1, x2, x3, x4]) rfl HFIN.out
end Go.Proofs.Ythfdmpcnebjkjaa
