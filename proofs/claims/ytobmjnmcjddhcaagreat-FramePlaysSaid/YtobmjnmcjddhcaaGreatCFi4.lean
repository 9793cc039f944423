import Derived.Test.YtobmjnmcjddhcaaGreatCTk
import Derived.Test.YtobmjnmcjddhcaaGreatCFi3
set_option linter.unusedSimpArgs false
set_option linter.unusedVariables false
set_option maxRecDepth 100000
set_option maxHeartbeats 16000000
namespace Go.Proofs.YtobmjnmcjddhcaaGreat
open Go.RowKit
def catchM (x : DFunc) (k : Nat) : List Int := if raisesM (codeAt x k).op = true then ((upM x.nodes (x.nodes.length + 1) (ndM x k)).filter fun u => decide (0 < u)).map (resM x) else []
theorem catchM_len (x : DFunc) (k : Nat) : (catchM x k).length ≤ x.nodes.length + 1 := by
 unfold catchM
 split
 ·rw [List.length_map]
  exact Nat.le_trans (List.length_filter_le _ _) (upM_len _ _ _)
 ·simp
theorem filt_snoc (f : Int → Bool) (g : Int → Int) (l : List Int) (k : Nat) (u : Int) (h : l[k]? = some u) : ((l.take (k + 1)).filter f).map g = ((l.take k).filter f).map g ++ (if f u = true then [g u] else []) := by
 rw [← take_snoc' l k u h, List.filter_append, List.map_append]
 congr 1
 by_cases hf : f u = true
 ·simp [hf]
 ·simp [hf]
theorem rcatch_any (s : ByteArray) (b : Bool) (A0 : Option Addr) (n0 c0 : Nat) (A1 : Option Addr) (n1 c1 : Nat) (A2 : Option Addr) (n2 c2 : Nat) (A3 : Option Addr) (n3 c3 : Nat) (A4 : Option Addr) (n4 c4 : Nat) (A5 : Option Addr) (n5 c5 : Nat) (A6 : Option Addr) (n6 c6 : Nat) (A7 : Option Addr) (n7 c7 : Nat) (A8 : Option Addr) (n8 c8 : Nat) (x : DFunc) (k : Nat) (w : World) (h : FnW w w.heap.size s b A0 n0 c0 A1 n1 c1 A2 n2 c2 A3 n3 c3 A4 n4 c4 A5 n5 c5 A6 n6 c6 A7 n7 c7 A8 n8 c8 x) (hk : k < n4) : Calls Tryz.prog 150 #[.agg #[.string s, .bool b, .slice A0 n0 c0, .slice A1 n1 c1, .slice A2 n2 c2, .slice A3 n3 c3, .slice A4 n4 c4, .slice A5 n5 c5, .slice A6 n6 c6, .slice A7 n7 c7, .slice A8 n8 c8], .int .i64 (k : Int)] w (IsRow (catchM x k) w) := by
 obtain ⟨i0, hi, hz0, hz1, hz2⟩ := info_parts info_int
 obtain ⟨w1, hw1⟩ : ∃ X, w.alloc (.cells #[.string s, .bool b, .slice A0 n0 c0, .slice A1 n1 c1, .slice A2 n2 c2, .slice A3 n3 c3, .slice A4 n4 c4, .slice A5 n5 c5, .slice A6 n6 c6, .slice A7 n7 c7, .slice A8 n8 c8] 38) = X := ⟨_, rfl⟩
 obtain ⟨g, hg⟩ : ∃ g, w.heap.size = g := ⟨_, rfl⟩
 have hb1 : Below w.heap.size w w1 := by rw [← hw1]; exact bl_one _
 have hc1 : Cells w1 g [.string s, .bool b, .slice A0 n0 c0, .slice A1 n1 c1, .slice A2 n2 c2, .slice A3 n3 c3, .slice A4 n4 c4, .slice A5 n5 c5, .slice A6 n6 c6, .slice A7 n7 c7, .slice A8 n8 c8] := by rw [← hw1, ← hg]; exact Cells.new w [.string s, .bool b, .slice A0 n0 c0, .slice A1 n1 c1, .slice A2 n2 c2, .slice A3 n3 c3, .slice A4 n4 c4, .slice A5 n5 c5, .slice A6 n6 c6, .slice A7 n7 c7, .slice A8 n8 c8] _
 have h1 := (h.keep hb1).more hb1.size
 have HB1 := Lib.hid hb1
 obtain ⟨s4, s5, s6, s7, s8, s0⟩ := h.sm
 have HF : Hid (∀ W, Below w1.heap.size w1 W → FnW W W.heap.size s b A0 n0 c0 A1 n1 c1 A2 n2 c2 A3 n3 c3 A4 n4 c4 A5 n5 c5 A6 n6 c6 A7 n7 c7 A8 n8 c8 x) := Lib.hid fun W hW => (h1.keep hW).more hW.size
 have HC : Hid (∀ W, Below w1.heap.size w1 W → Cells W g [.string s, .bool b, .slice A0 n0 c0, .slice A1 n1 c1, .slice A2 n2 c2, .slice A3 n3 c3, .slice A4 n4 c4, .slice A5 n5 c5, .slice A6 n6 c6, .slice A7 n7 c7, .slice A8 n8 c8]) := Lib.hid fun W hW => hc1.on hW
 have HN6 : Hid (x.nodes.length = n6) := Lib.hid h1.r6.1
 have hk0 : (0 : Int) ≤ (k : Int) := by omega
 have hk1 : (k : Int) ≤ 150 := by omega
 have hkn : (k : Int) < (n4 : Int) := by omega
 have HBW : Hid (∀ W, Below w1.heap.size w1 W → Below w.heap.size w W) := Lib.hid fun W hW => hb1.trans (hW.mono hb1.size)
 obtain ⟨bb, off, yo, ya, rfl, hbb, hca, hcd, y0, y1⟩ := code_get h1.r4 hk
 have e0 := hc1.at_ 0 _ rfl
 have e1 := hc1.at_ 1 _ rfl
 have e2 := hc1.at_ 2 _ rfl
 have e3 := hc1.at_ 3 _ rfl
 have e4 := hc1.at_ 4 _ rfl
 have e5 := hc1.at_ 5 _ rfl
 have e6 := hc1.at_ 6 _ rfl
 have e7 := hc1.at_ 7 _ rfl
 have e8 := hc1.at_ 8 _ rfl
 have e9 := hc1.at_ 9 _ rfl
 have e10 := hc1.at_ 10 _ rfl
 have HCA : Hid (catchM x k = if raisesM yo = true then ((upM x.nodes (n6 + 1) (ndM x k)).filter fun u => decide (0 < u)).map (resM x) else []) := Lib.hid (by unfold catchM; rw [hca, HN6.out])
 have cR := Lib.hid (rraises_any yo w1)
 have f0 : decide ((k : Int) < 0) = false := by rw [decide_eq_false_iff_not]; omega
 have f1 : decide ((k : Int) ≥ (n4 : Int)) = false := by rw [decide_eq_false_iff_not]; omega
 have f1b : decide (n4 ≤ k) = false := by rw [decide_eq_false_iff_not]; omega
 clear hca hcd h h1 hb1 hc1
 go_enter Tryz.func150, Tryz.ntmps150
 go_wp2_with fail
 refine cR.out.mono ?_
 rintro e w2 ⟨rfl, rfl⟩
 obtain ⟨r, hr⟩ : ∃ r, raisesM yo = r := ⟨_, rfl⟩
 rw [hr] at HCA
 rw [hr]
 clear hr cR
 cases r with
 | false =>
  go_wp2_with fail
  go_ret
  exact ⟨none, 0, 0, rfl, by rw [HCA.out]; exact row_nil _ _, HB1.out⟩
 | true =>
  obtain ⟨up, hup⟩ : ∃ l, upM x.nodes (n6 + 1) (ndM x k) = l := ⟨_, rfl⟩
  have HUL : Hid (up.length ≤ 21 ∧ ∀ u ∈ up, 0 ≤ u ∧ u < (n6 : Int)) := Lib.hid ⟨by rw [← hup]; exact Nat.le_trans (upM_len _ _ _) (by omega), fun u hu => by rw [← hup] at hu; have := upM_in _ _ _ u hu; rw [HN6.out] at this; exact this⟩
  have HUP := Lib.hid hup
  obtain ⟨nd, hnd⟩ : ∃ v, ndM x k = v := ⟨_, rfl⟩
  have cN : Hid (∀ W, Below w1.heap.size w1 W → Calls Tryz.prog 149 #[.agg #[.string s, .bool b, .slice A0 n0 c0, .slice A1 n1 c1, .slice A2 n2 c2, .slice A3 n3 c3, .slice (some ⟨bb, off, none⟩) n4 c4, .slice A5 n5 c5, .slice A6 n6 c6, .slice A7 n7 c7, .slice A8 n8 c8], .int .i64 (k : Int)] W fun e w' => e = .returned (.int .i64 nd) ∧ Below W.heap.size W w') := Lib.hid fun W hW => by rw [← hnd]; exact rnode_any s b A0 n0 c0 A1 n1 c1 A2 n2 c2 A3 n3 c3 (some ⟨bb, off, none⟩) n4 c4 A5 n5 c5 A6 n6 c6 A7 n7 c7 A8 n8 c8 x k W (HF.out W hW) (by omega)
  have cU : Hid (∀ W, Below w1.heap.size w1 W → Calls Tryz.prog 172 #[.slice A6 n6 c6, .int .i64 nd] W (IsRow up W)) := Lib.hid fun W hW => by rw [← hup, hnd]; exact rup_any A6 n6 c6 x.nodes nd W (HF.out W hW).r6 (by omega)
  rw [hup] at HCA
  have EQ : Hid (∀ W, Below w1.heap.size w1 W → W.cell? ⟨g, 0, none⟩ = some (.string s) ∧ W.cell? ⟨g, 1, none⟩ = some (.bool b) ∧ W.cell? ⟨g, 2, none⟩ = some (.slice A0 n0 c0) ∧ W.cell? ⟨g, 3, none⟩ = some (.slice A1 n1 c1) ∧ W.cell? ⟨g, 4, none⟩ = some (.slice A2 n2 c2) ∧ W.cell? ⟨g, 5, none⟩ = some (.slice A3 n3 c3) ∧ W.cell? ⟨g, 6, none⟩ = some (.slice (some ⟨bb, off, none⟩) n4 c4) ∧ W.cell? ⟨g, 7, none⟩ = some (.slice A5 n5 c5) ∧ W.cell? ⟨g, 8, none⟩ = some (.slice A6 n6 c6) ∧ W.cell? ⟨g, 9, none⟩ = some (.slice A7 n7 c7) ∧ W.cell? ⟨g, 10, none⟩ = some (.slice A8 n8 c8)) := Lib.hid fun W hW => ⟨(HC.out W hW).at_ 0 _ rfl, (HC.out W hW).at_ 1 _ rfl, (HC.out W hW).at_ 2 _ rfl, (HC.out W hW).at_ 3 _ rfl, (HC.out W hW).at_ 4 _ rfl, (HC.out W hW).at_ 5 _ rfl, (HC.out W hW).at_ 6 _ rfl, (HC.out W hW).at_ 7 _ rfl, (HC.out W hW).at_ 8 _ rfl, (HC.out W hW).at_ 9 _ rfl, (HC.out W hW).at_ 10 _ rfl⟩
  clear hup hnd hw1 hg y0 y1 hbb e0 e1 e2 e3 e4 e5 e6 e7 e8 e9 e10
  go_wp2_with fail
  refine wp_region_held (S := fun W => Below w1.heap.size w1 W) (by kernel_rfl) ?_
  change wpAnyH _ _ _ _ _ _ _ _ (World.drew _)
  have hS0 : Below w1.heap.size w1 w1.drew := (Below.refl _ _).drew
  refine teH 0 (.pointer (some ⟨g, 8, none⟩)) rfl (by intro W hW; go_simp; try (first | (with_reducible rfl) | omega)) hS0 ?_
  refine teH 2 (.agg #[.string s, .bool b, .slice A0 n0 c0, .slice A1 n1 c1, .slice A2 n2 c2, .slice A3 n3 c3, .slice (some ⟨bb, off, none⟩) n4 c4, .slice A5 n5 c5, .slice A6 n6 c6, .slice A7 n7 c7, .slice A8 n8 c8]) rfl (by intro W hW; obtain ⟨e0, e1, e2, e3, e4, e5, e6, e7, e8, e9, e10⟩ := EQ.out W hW; go_simp; try (first | (with_reducible rfl) | omega)) hS0 ?_
  refine teH 3 (.int .i64 (k : Int)) rfl (by intro W hW; go_simp; try (first | (with_reducible rfl) | omega)) hS0 ?_
  try go_simp
  refine teH 1 (.slice A6 n6 c6) rfl (by intro W hW; obtain ⟨e0, e1, e2, e3, e4, e5, e6, e7, e8, e9, e10⟩ := EQ.out W hW; go_simp; try (first | (with_reducible rfl) | omega)) hS0 ?_
  try go_simp
  refine wpAnyH_one (i := 4) (by kernel_rfl) rfl (fun K hK => ?_)
  go_simp
  refine (cN.out _ hS0).mono ?_
  rintro e v1 ⟨rfl, hb2⟩
  have hS1 : Below w1.heap.size w1 v1 := hS0.trans (hb2.mono hS0.size)
  clear hb2
  go_simp
  refine hK _ _ ⟨hS1, ?_⟩; clear hK K
  try go_simp
  refine wpAnyH_one (i := 5) (by kernel_rfl) rfl (fun K hK => ?_)
  go_simp
  refine (cU.out _ hS1).mono ?_
  rintro e v2 ⟨U, m, cu, rfl, hou, hb2⟩
  have hS2 : Below w1.heap.size w1 v2 := hS1.trans (hb2.mono hS1.size)
  have HSU := Lib.hid (SlI.own hou (by have := row_len hou; have := HUL.out.1; omega))
  have HML : Hid (m = up.length) := Lib.hid (row_len hou).symm
  clear hb2 hou
  go_simp
  refine hK _ _ ⟨hS2, ?_⟩; clear hK K
  try go_simp
  refine wpAnyH_one (i := 6) (by kernel_rfl) rfl (fun K hK => ?_)
  go_simp
  refine hK _ _ ⟨hS2, ?_⟩; clear hK K
  try go_simp
  refine wpAnyH_done (by kernel_rfl) ?_ _
  try go_simp
  have HS2 := Lib.hid hS2
  have hm21 : m ≤ 21 := by have := HUL.out.1; have := HML.out; omega
  have hm0 : (m : Int) ≤ 21 := by omega
  clear hS0 hS1 hS2 cN cU
  go_wp2_with fail
  go_loopw [5, 7] (fun ov iv wr => ∃ (j : Nat) (q : Nat) (A' : Option Addr) (c' : Nat), ov = .slice A' q c' ∧ iv = .int .i64 (j : Int) ∧ j ≤ m ∧ q ≤ j ∧ Hid (wr.ownsRow v2.heap.size 3 1 (.slice A' q c') q (rowI (((up.take j).filter fun u => decide (0 < u)).map (resM x))) ∧ Below v2.heap.size v2 wr)) (fun _ iv _ => m - (intOf iv).toNat)
  case atStart => exact ⟨0, 0, none, 0, rfl, rfl, Nat.zero_le _, Nat.le_refl _, Lib.hid ⟨⟨rfl, .inl ⟨rfl, rfl⟩⟩, Below.refl _ _⟩⟩
  case round =>
   obtain ⟨j, q, A', c', rfl, rfl, hj, hqj, HK⟩ := hrel
   have hj0 : (0 : Int) ≤ (j : Int) := by omega
   have hj1 : (j : Int) ≤ 21 := by omega
   have HBr := Lib.hid HK.out.2
   have HO := Lib.hid HK.out.1
   have HWr : Hid (Below w1.heap.size w1 wr) := Lib.hid (HS2.out.trans (HBr.out.mono HS2.out.size))
   clear HK
   by_cases hlt : j < m
   ·have hjn : (j : Int) < (m : Int) := by omega
    obtain ⟨ub, uo, u, rfl, hub, hu, uc0⟩ := SlR.cell1 (f := Value.int .i64) HSU.out (i := j) hlt
    have uc := (HBr.out.cell (p := ⟨ub, uo + j, none⟩) hub).trans uc0
    have hui := HUL.out.2 u (List.mem_of_getElem? hu)
    have HFS := Lib.hid (filt_snoc (fun u => decide (0 < u)) (resM x) up j u hu)
    have HUC := Lib.hid uc0
    clear uc0
    by_cases hpos : 0 < u
    ·have t0 : decide (u > 0) = true := by simpa using hpos
     have t0b : decide (0 < u) = true := by simpa using hpos
     obtain ⟨nb, noff, z, zz, hA6, hnb, rfl, hzq, _, hz, hzc⟩ := node_get (HF.out w1 (Below.refl _ _)).r6 (a := u) (by omega) hui.2
     subst hA6
     have z6 := hzc 6 _ rfl
     have HFS2 : Hid (((up.take (j + 1)).filter fun u => decide (0 < u)).map (resM x) = ((up.take j).filter fun u => decide (0 < u)).map (resM x) ++ [zz.resume]) := Lib.hid (by rw [HFS.out, if_pos (by simpa using hpos), hz])
     obtain ⟨zr, hzr⟩ : ∃ v, zz.resume = v := ⟨_, rfl⟩
     rw [hzr] at z6 HFS2
     have HZ6 := Lib.hid z6
     have hzp : 0 < z := by omega
     have t0c : decide (0 < z) = true := by simpa using hzp
     have t0d : decide ((z : Int) > 0) = true := by rw [decide_eq_true_eq]; omega
     have hzn : (z : Int) < (n6 : Int) := by omega
     have hz00 : (0 : Int) ≤ (z : Int) := by omega
     clear hzc hz hzr z6 HFS hui hu
     go_wp2_with fail
     refine wp_region_held (S := fun W => Below v2.heap.size v2 W) (by kernel_rfl) ?_
     change wpAnyH _ _ _ _ _ _ _ _ (World.drew _)
     have hS0 : Below v2.heap.size v2 wr.drew := HBr.out.drew
     refine teH 0 (.slice A' q c') rfl (by intro W hW; go_simp; try (first | (with_reducible rfl) | omega)) hS0 ?_
     refine teH 1 (.pointer (some ⟨g, 8, none⟩)) rfl (by intro W hW; go_simp; try (first | (with_reducible rfl) | omega)) hS0 ?_
     refine teH 3 (.slice (some ⟨ub, uo, none⟩) m cu) rfl (by intro W hW; go_simp; try (first | (with_reducible rfl) | omega)) hS0 ?_
     refine teH 4 (.int .i64 (j : Int)) rfl (by intro W hW; go_simp; try (first | (with_reducible rfl) | omega)) hS0 ?_
     try go_simp
     refine teH 2 (.slice (some ⟨nb, noff, none⟩) n6 c6) rfl (by intro W hW; have hW2 : Below w1.heap.size w1 W := HS2.out.trans (hW.mono HS2.out.size); obtain ⟨e0, e1, e2, e3, e4, e5, e6, e7, e8, e9, e10⟩ := EQ.out W hW2; have u9 := (hW.cell (p := ⟨ub, uo + j, none⟩) hub).trans HUC.out; have z9 := (hW2.cell (p := ⟨nb, noff + z * 7 + 6, none⟩) hnb).trans HZ6.out; go_simp; try (first | (with_reducible rfl) | omega)) hS0 ?_
     refine teH 5 (.pointer (some ⟨ub, uo + j, none⟩)) rfl (by intro W hW; go_simp; try (first | (with_reducible rfl) | omega)) hS0 ?_
     try go_simp
     refine teH 6 (.int .i64 (z : Int)) rfl (by intro W hW; have hW2 : Below w1.heap.size w1 W := HS2.out.trans (hW.mono HS2.out.size); obtain ⟨e0, e1, e2, e3, e4, e5, e6, e7, e8, e9, e10⟩ := EQ.out W hW2; have u9 := (hW.cell (p := ⟨ub, uo + j, none⟩) hub).trans HUC.out; have z9 := (hW2.cell (p := ⟨nb, noff + z * 7 + 6, none⟩) hnb).trans HZ6.out; go_simp; try (first | (with_reducible rfl) | omega)) hS0 ?_
     try go_simp
     refine teH 7 (.pointer (some ⟨nb, noff + z * 7, none⟩)) rfl (by intro W hW; go_simp; try (first | (with_reducible rfl) | omega)) hS0 ?_
     try go_simp
     refine teH 8 (.pointer (some ⟨nb, noff + z * 7 + 6, none⟩)) rfl (by intro W hW; go_simp; try (first | (with_reducible rfl) | omega)) hS0 ?_
     try go_simp
     refine teH 9 (.int .i64 zr) rfl (by intro W hW; have hW2 : Below w1.heap.size w1 W := HS2.out.trans (hW.mono HS2.out.size); obtain ⟨e0, e1, e2, e3, e4, e5, e6, e7, e8, e9, e10⟩ := EQ.out W hW2; have u9 := (hW.cell (p := ⟨ub, uo + j, none⟩) hub).trans HUC.out; have z9 := (hW2.cell (p := ⟨nb, noff + z * 7 + 6, none⟩) hnb).trans HZ6.out; go_simp; try (first | (with_reducible rfl) | omega)) hS0 ?_
     try go_simp
     have hsd : Below wr.heap.size wr wr.drew := (Below.refl _ _).drew
     obtain ⟨wd, hwd⟩ : ∃ X, wr.drew = X := ⟨_, rfl⟩
     rw [hwd] at hS0 hsd
     rw [hwd]
     clear hwd
     have hodd := Lib.hid (own_keep HO.out hsd)
     have hZ : Hid (v2.heap.size ≤ wd.heap.size) := Lib.hid hS0.size
     have hsrc := Lib.hid (src_int wd zr)
     have HSD := Lib.hid hS0
     obtain ⟨wb, hwb⟩ : ∃ X, World.alloc wd (.cells #[.int .i64 zr] 3) = X := ⟨_, rfl⟩
     obtain ⟨lb, hlb⟩ : ∃ X, (World.heap wd).size = X := ⟨_, rfl⟩
     have hsb : Below v2.heap.size v2 wb := by rw [← hwb]; exact hS0.alloc hS0.size _
     have hOB : Hid (wb.ownsRow v2.heap.size 3 1 (.slice A' q c') q (rowI (((up.take j).filter fun u => decide (0 < u)).map (resM x)))) := Lib.hid (by rw [← hwb]; exact hodd.out.alloc _)
     rw [hwb, hlb] at hsrc
     clear hsd
     refine wpAnyH_one (i := 10) (by kernel_rfl) rfl (fun K hK => ?_)
     go_simp
     refine hK _ _ ⟨hsb, ?_⟩; clear hK K
     refine wpAnyH_one (i := 11) (by kernel_rfl) rfl (fun K hK => ?_)
     refine step_append_src _ rfl _ _ 34 rfl v2.heap.size 3 i0 (.int .i64 0) 1 8 Tryz.underlying34 hi hz0 hz1 hz2 rfl (by decide) (.slice A' q c') q (rowI (((up.take j).filter fun u => decide (0 < u)).map (resM x))) ?qq1 hOB.out (some ⟨lb, 0, none⟩) 1 1 [.int .i64 zr] ?qq2 hsrc.out (one_int _) (by unfold maxLen; omega) (by omega) hsb.size ?_
     case qq1 => go_simp
     case qq2 => go_simp
     intro v' w7 hown' hgrow3 hat3
     rw [← hwb] at hgrow3
     obtain ⟨A2, c2, rfl, X1, X2, _⟩ := app_int HSD.out hZ.out hodd.out hown' hgrow3
     have XR := Lib.hid X1
     have XB := Lib.hid X2
     clear X1 X2 hown' hgrow3 hat3 hwb hlb
     go_simp
     refine hK _ _ ⟨XB.out, ?_⟩; clear hK K
     try go_simp
     refine wpAnyH_one (i := 12) (by kernel_rfl) rfl (fun K hK => ?_)
     go_simp
     refine hK _ _ ⟨XB.out, ?_⟩; clear hK K
     try go_simp
     refine wpAnyH_done (by kernel_rfl) ?_ _
     try go_simp
     go_wp2_with fail
     go_roundw
     case rel => exact ⟨j + 1, q + 1, A2, c2, rfl, by go_num, by omega, by omega, Lib.hid ⟨by rw [HFS2.out]; exact XR.out, XB.out⟩⟩
     case measure => simp [intOf]; omega
    ·obtain rfl : u = 0 := by omega
     have t0b : decide ((0 : Int) < 0) = false := by decide
     have HFS2 : Hid (((up.take (j + 1)).filter fun u => decide (0 < u)).map (resM x) = ((up.take j).filter fun u => decide (0 < u)).map (resM x)) := Lib.hid (by rw [HFS.out, t0b]; simp)
     clear hu HFS hui
     go_wp2_with fail
     go_roundw
     case rel => exact ⟨j + 1, q, A', c', rfl, by go_num, by omega, by omega, Lib.hid ⟨by rw [HFS2.out]; exact HO.out, HBr.out⟩⟩
     case measure => simp [intOf]; omega
   ·obtain rfl : j = m := by omega
    go_wp2_with fail
    go_ret
    exact ⟨A', q, c', rfl, by have h1 := HO.out; rw [List.take_of_length_le (by have := HML.out; omega)] at h1; rw [HCA.out]; exact own_less h1 (Nat.le_trans HB1.out.size HS2.out.size), HBW.out _ HWr.out⟩
end Go.Proofs.YtobmjnmcjddhcaaGreat
