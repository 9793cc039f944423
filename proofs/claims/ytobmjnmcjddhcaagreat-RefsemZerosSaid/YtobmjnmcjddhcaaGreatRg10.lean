import Derived.Test.YtobmjnmcjddhcaaGreatRg2
import Derived.Test.YtobmjnmcjddhcaaGreatRg5
import Derived.Test.YtobmjnmcjddhcaaGreatRg1
import Derived.ArgAppend
import Derived.Deep.MidRow
set_option linter.unusedSimpArgs false
set_option linter.unusedVariables false
namespace Go.Proofs.YtobmjnmcjddhcaaGreat
section
set_option maxRecDepth 100000
set_option maxHeartbeats 16000000
open Go.RowKit
def catchM (x : DFunc) (k : Nat) : List Int := if raisesM (codeAt x k).op = true then ((upM x.nodes (x.nodes.length + 1) (ndM x k)).filter fun u => decide (0 < u)).map (resM x) else []
theorem catchM_len (x : DFunc) (k : Nat) : (catchM x k).length ≤ x.nodes.length + 1 := by
 unfold catchM
 split
 ·rw [List.length_map]
  exact Nat.le_trans (List.length_filter_le _ _) (upM_len _ _ _)
 ·simp
theorem filt_snoc (f : Int → Bool) (g : Int → Int) (l : List Int) (k : Nat) (u : Int) (h : l[k]? = some u) : ((l.take (k + 1)).filter f).map g = ((l.take k).filter f).map g ++ (if f u = true then [g u] else []) := by
 rw [← take_snoc' l k u h, List.filter_append, List.map_append]
 congr 1
 by_cases hf : f u = true
 ·simp [hf]
 ·simp [hf]
theorem rcatch_any (s : ByteArray) (b : Bool) (A0 : Option Addr) (n0 c0 : Nat) (A1 : Option Addr) (n1 c1 : Nat) (A2 : Option Addr) (n2 c2 : Nat) (A3 : Option Addr) (n3 c3 : Nat) (A4 : Option Addr) (n4 c4 : Nat) (A5 : Option Addr) (n5 c5 : Nat) (A6 : Option Addr) (n6 c6 : Nat) (A7 : Option Addr) (n7 c7 : Nat) (A8 : Option Addr) (n8 c8 : Nat) (x : DFunc) (k : Nat) (w : World) (h : FnW w w.heap.size s b A0 n0 c0 A1 n1 c1 A2 n2 c2 A3 n3 c3 A4 n4 c4 A5 n5 c5 A6 n6 c6 A7 n7 c7 A8 n8 c8 x) (hk : k < n4) : Calls Tryz.prog 150 #[.agg #[.string s, .bool b, .slice A0 n0 c0, .slice A1 n1 c1, .slice A2 n2 c2, .slice A3 n3 c3, .slice A4 n4 c4, .slice A5 n5 c5, .slice A6 n6 c6, .slice A7 n7 c7, .slice A8 n8 c8], .int .i64 (k : Int)] w (IsRow (catchM x k) w) := by
 obtain ⟨i0, hi, hz0, hz1, hz2⟩ := info_parts info_int
 obtain ⟨w1, hw1⟩ : ∃ X, w.alloc (.cells #[.string s, .bool b, .slice A0 n0 c0, .slice A1 n1 c1, .slice A2 n2 c2, .slice A3 n3 c3, .slice A4 n4 c4, .slice A5 n5 c5, .slice A6 n6 c6, .slice A7 n7 c7, .slice A8 n8 c8] 38) = X := ⟨_, rfl⟩
 obtain ⟨g, hg⟩ : ∃ g, w.heap.size = g := ⟨_, rfl⟩
 have hb1 : Below w.heap.size w w1 := by rw [← hw1]; exact bl_one _
 have hc1 : Cells w1 g [.string s, .bool b, .slice A0 n0 c0, .slice A1 n1 c1, .slice A2 n2 c2, .slice A3 n3 c3, .slice A4 n4 c4, .slice A5 n5 c5, .slice A6 n6 c6, .slice A7 n7 c7, .slice A8 n8 c8] := by rw [← hw1, ← hg]; exact Cells.new w [.string s, .bool b, .slice A0 n0 c0, .slice A1 n1 c1, .slice A2 n2 c2, .slice A3 n3 c3, .slice A4 n4 c4, .slice A5 n5 c5, .slice A6 n6 c6, .slice A7 n7 c7, .slice A8 n8 c8] _
 have h1 := (h.keep hb1).more hb1.size
 have HB1 := Hd hb1
 obtain ⟨s4, s5, s6, s7, s8, s0⟩ := h.sm
 have HF : Hid (∀ W, Below w1.heap.size w1 W → FnW W W.heap.size s b A0 n0 c0 A1 n1 c1 A2 n2 c2 A3 n3 c3 A4 n4 c4 A5 n5 c5 A6 n6 c6 A7 n7 c7 A8 n8 c8 x) := Hd fun W hW => (h1.keep hW).more hW.size
 have HC : Hid (∀ W, Below w1.heap.size w1 W → Cells W g [.string s, .bool b, .slice A0 n0 c0, .slice A1 n1 c1, .slice A2 n2 c2, .slice A3 n3 c3, .slice A4 n4 c4, .slice A5 n5 c5, .slice A6 n6 c6, .slice A7 n7 c7, .slice A8 n8 c8]) := Hd fun W hW => hc1.on hW
 have HN6 : Hid (x.nodes.length = n6) := Hd h1.r6.1
 have hk0 : (0 : Int) ≤ (k : Int) := by omega
 have hk1 : (k : Int) ≤ 150 := by omega
 have hkn : (k : Int) < (n4 : Int) := by omega
 have HBW : Hid (∀ W, Below w1.heap.size w1 W → Below w.heap.size w W) := Hd fun W hW => hb1.trans (hW.mono hb1.size)
 obtain ⟨bb, off, yo, ya, rfl, hbb, hca, hcd, y0, y1⟩ := code_get h1.r4 hk
 have e0 := hc1.at_ 0 _ rfl
 have e1 := hc1.at_ 1 _ rfl
 have e2 := hc1.at_ 2 _ rfl
 have e3 := hc1.at_ 3 _ rfl
 have e4 := hc1.at_ 4 _ rfl
 have e5 := hc1.at_ 5 _ rfl
 have e6 := hc1.at_ 6 _ rfl
 have e7 := hc1.at_ 7 _ rfl
 have e8 := hc1.at_ 8 _ rfl
 have e9 := hc1.at_ 9 _ rfl
 have e10 := hc1.at_ 10 _ rfl
 have HCA : Hid (catchM x k = if raisesM yo = true then ((upM x.nodes (n6 + 1) (ndM x k)).filter fun u => decide (0 < u)).map (resM x) else []) := Hd (by unfold catchM; rw [hca, HN6.out])
 have cR := Hd (rraises_any yo w1)
 have f0 : decide ((k : Int) < 0) = false := dcF (by omega)
 have f1 : decide ((k : Int) ≥ (n4 : Int)) = false := dcF (by omega)
 have f1b : decide (n4 ≤ k) = false := dcF (by omega)
 clear hca hcd h h1 hb1 hc1
 go_in
 go_wp2_with fail
 refine cR.out.mono ?_
 rintro e w2 ⟨rfl, rfl⟩
 obtain ⟨r, hr⟩ : ∃ r, raisesM yo = r := ⟨_, rfl⟩
 rw [hr] at HCA
 rw [hr]
 clear hr cR
 cases r with
 | false =>
  go_wp2_with fail
  go_ret
  exact ⟨none, 0, 0, rfl, by rw [HCA.out]; exact row_nil _ _, HB1.out⟩
 | true =>
  obtain ⟨up, hup⟩ : ∃ l, upM x.nodes (n6 + 1) (ndM x k) = l := ⟨_, rfl⟩
  have HUL : Hid (up.length ≤ 21 ∧ ∀ u ∈ up, 0 ≤ u ∧ u < (n6 : Int)) := Hd ⟨by rw [← hup]; exact Nat.le_trans (upM_len _ _ _) (by omega), fun u hu => by rw [← hup] at hu; have := upM_in _ _ _ u hu; rw [HN6.out] at this; exact this⟩
  have HUP := Hd hup
  obtain ⟨nd, hnd⟩ : ∃ v, ndM x k = v := ⟨_, rfl⟩
  have cN : Hid (∀ W, Below w1.heap.size w1 W → Calls Tryz.prog 149 #[.agg #[.string s, .bool b, .slice A0 n0 c0, .slice A1 n1 c1, .slice A2 n2 c2, .slice A3 n3 c3, .slice (some ⟨bb, off, none⟩) n4 c4, .slice A5 n5 c5, .slice A6 n6 c6, .slice A7 n7 c7, .slice A8 n8 c8], .int .i64 (k : Int)] W fun e w' => e = .returned (.int .i64 nd) ∧ Below W.heap.size W w') := Hd fun W hW => by rw [← hnd]; exact rnode_any s b A0 n0 c0 A1 n1 c1 A2 n2 c2 A3 n3 c3 (some ⟨bb, off, none⟩) n4 c4 A5 n5 c5 A6 n6 c6 A7 n7 c7 A8 n8 c8 x k W (HF.out W hW) (by omega)
  have cU : Hid (∀ W, Below w1.heap.size w1 W → Calls Tryz.prog 172 #[.slice A6 n6 c6, .int .i64 nd] W (IsRow up W)) := Hd fun W hW => by rw [← hup, hnd]; exact rup_any A6 n6 c6 x.nodes nd W (HF.out W hW).r6 (by omega)
  rw [hup] at HCA
  have EQ : Hid (∀ W, Below w1.heap.size w1 W → W.cell? ⟨g, 0, none⟩ = some (.string s) ∧ W.cell? ⟨g, 1, none⟩ = some (.bool b) ∧ W.cell? ⟨g, 2, none⟩ = some (.slice A0 n0 c0) ∧ W.cell? ⟨g, 3, none⟩ = some (.slice A1 n1 c1) ∧ W.cell? ⟨g, 4, none⟩ = some (.slice A2 n2 c2) ∧ W.cell? ⟨g, 5, none⟩ = some (.slice A3 n3 c3) ∧ W.cell? ⟨g, 6, none⟩ = some (.slice (some ⟨bb, off, none⟩) n4 c4) ∧ W.cell? ⟨g, 7, none⟩ = some (.slice A5 n5 c5) ∧ W.cell? ⟨g, 8, none⟩ = some (.slice A6 n6 c6) ∧ W.cell? ⟨g, 9, none⟩ = some (.slice A7 n7 c7) ∧ W.cell? ⟨g, 10, none⟩ = some (.slice A8 n8 c8)) := Hd fun W hW => ⟨(HC.out W hW).at_ 0 _ rfl, (HC.out W hW).at_ 1 _ rfl, (HC.out W hW).at_ 2 _ rfl, (HC.out W hW).at_ 3 _ rfl, (HC.out W hW).at_ 4 _ rfl, (HC.out W hW).at_ 5 _ rfl, (HC.out W hW).at_ 6 _ rfl, (HC.out W hW).at_ 7 _ rfl, (HC.out W hW).at_ 8 _ rfl, (HC.out W hW).at_ 9 _ rfl, (HC.out W hW).at_ 10 _ rfl⟩
  clear hup hnd hw1 hg y0 y1 hbb e0 e1 e2 e3 e4 e5 e6 e7 e8 e9 e10
  go_wp2_with fail
  refine wp_region_held (S := fun W => Below w1.heap.size w1 W) (by kernel_rfl) ?_
  change wpAnyH _ _ _ _ _ _ _ _ (World.drew _)
  have hS0 : Below w1.heap.size w1 w1.drew := (Below.refl _ _).drew
  refine teH 0 (.pointer (some ⟨g, 8, none⟩)) rfl (by intro W hW; go_simp; try (first | (with_reducible rfl) | omega)) hS0 ?_
  refine teH 2 (.agg #[.string s, .bool b, .slice A0 n0 c0, .slice A1 n1 c1, .slice A2 n2 c2, .slice A3 n3 c3, .slice (some ⟨bb, off, none⟩) n4 c4, .slice A5 n5 c5, .slice A6 n6 c6, .slice A7 n7 c7, .slice A8 n8 c8]) rfl (by intro W hW; obtain ⟨e0, e1, e2, e3, e4, e5, e6, e7, e8, e9, e10⟩ := EQ.out W hW; go_simp; try (first | (with_reducible rfl) | omega)) hS0 ?_
  refine teH 3 (.int .i64 (k : Int)) rfl (by intro W hW; go_simp; try (first | (with_reducible rfl) | omega)) hS0 ?_
  try go_simp
  refine teH 1 (.slice A6 n6 c6) rfl (by intro W hW; obtain ⟨e0, e1, e2, e3, e4, e5, e6, e7, e8, e9, e10⟩ := EQ.out W hW; go_simp; try (first | (with_reducible rfl) | omega)) hS0 ?_
  try go_simp
  refine wpAnyH_one (i := 4) (by kernel_rfl) rfl (fun K hK => ?_)
  go_simp
  refine (cN.out _ hS0).mono ?_
  rintro e v1 ⟨rfl, hb2⟩
  have hS1 : Below w1.heap.size w1 v1 := hS0.trans (hb2.mono hS0.size)
  clear hb2
  go_simp
  refine hK _ _ ⟨hS1, ?_⟩; clear hK K
  try go_simp
  refine wpAnyH_one (i := 5) (by kernel_rfl) rfl (fun K hK => ?_)
  go_simp
  refine (cU.out _ hS1).mono ?_
  rintro e v2 ⟨U, m, cu, rfl, hou, hb2⟩
  have hS2 : Below w1.heap.size w1 v2 := hS1.trans (hb2.mono hS1.size)
  have HSU := Hd (SlI.own hou (by have := row_len hou; have := HUL.out.1; omega))
  have HML : Hid (m = up.length) := Hd (row_len hou).symm
  clear hb2 hou
  go_simp
  refine hK _ _ ⟨hS2, ?_⟩; clear hK K
  try go_simp
  refine wpAnyH_one (i := 6) (by kernel_rfl) rfl (fun K hK => ?_)
  go_simp
  refine hK _ _ ⟨hS2, ?_⟩; clear hK K
  try go_simp
  refine wpAnyH_done (by kernel_rfl) ?_ _
  try go_simp
  have HS2 := Hd hS2
  have hm21 : m ≤ 21 := by have := HUL.out.1; have := HML.out; omega
  have hm0 : (m : Int) ≤ 21 := by omega
  clear hS0 hS1 hS2 cN cU
  go_wp2_with fail
  go_loopw [5, 7] (fun ov iv wr => ∃ (j : Nat) (q : Nat) (A' : Option Addr) (c' : Nat), ov = .slice A' q c' ∧ iv = .int .i64 (j : Int) ∧ j ≤ m ∧ q ≤ j ∧ Hid (wr.ownsRow v2.heap.size 3 1 (.slice A' q c') q (rowI (((up.take j).filter fun u => decide (0 < u)).map (resM x))) ∧ Below v2.heap.size v2 wr)) (fun _ iv _ => m - (intOf iv).toNat)
  case atStart => exact ⟨0, 0, none, 0, rfl, rfl, Nat.zero_le _, Nat.le_refl _, Hd ⟨⟨rfl, .inl ⟨rfl, rfl⟩⟩, Below.refl _ _⟩⟩
  case round =>
   obtain ⟨j, q, A', c', rfl, rfl, hj, hqj, HK⟩ := hrel
   have hj0 : (0 : Int) ≤ (j : Int) := by omega
   have hj1 : (j : Int) ≤ 21 := by omega
   have HBr := Hd HK.out.2
   have HO := Hd HK.out.1
   have HWr : Hid (Below w1.heap.size w1 wr) := Hd (HS2.out.trans (HBr.out.mono HS2.out.size))
   clear HK
   by_cases hlt : j < m
   ·have hjn : (j : Int) < (m : Int) := by omega
    obtain ⟨ub, uo, u, rfl, hub, hu, uc0⟩ := SlR.cell1 (f := Value.int .i64) HSU.out (i := j) hlt
    have uc := (HBr.out.cell (p := ⟨ub, uo + j, none⟩) hub).trans uc0
    have hui := HUL.out.2 u (List.mem_of_getElem? hu)
    have HFS := Hd (filt_snoc (fun u => decide (0 < u)) (resM x) up j u hu)
    have HUC := Hd uc0
    clear uc0
    by_cases hpos : 0 < u
    ·have t0 : decide (u > 0) = true := by simpa using hpos
     have t0b : decide (0 < u) = true := by simpa using hpos
     obtain ⟨nb, noff, z, zz, hA6, hnb, rfl, hzq, _, hz, hzc⟩ := node_get (HF.out w1 (Below.refl _ _)).r6 (a := u) (by omega) hui.2
     subst hA6
     have z6 := hzc 6 _ rfl
     have HFS2 : Hid (((up.take (j + 1)).filter fun u => decide (0 < u)).map (resM x) = ((up.take j).filter fun u => decide (0 < u)).map (resM x) ++ [zz.resume]) := Hd (by rw [HFS.out, if_pos (by simpa using hpos), hz])
     obtain ⟨zr, hzr⟩ : ∃ v, zz.resume = v := ⟨_, rfl⟩
     rw [hzr] at z6 HFS2
     have HZ6 := Hd z6
     have hzp : 0 < z := by omega
     have t0c : decide (0 < z) = true := by simpa using hzp
     have t0d : decide ((z : Int) > 0) = true := dcT (by omega)
     have hzn : (z : Int) < (n6 : Int) := by omega
     have hz00 : (0 : Int) ≤ (z : Int) := by omega
     clear hzc hz hzr z6 HFS hui hu
     go_wp2_with fail
     refine wp_region_held (S := fun W => Below v2.heap.size v2 W) (by kernel_rfl) ?_
     change wpAnyH _ _ _ _ _ _ _ _ (World.drew _)
     have hS0 : Below v2.heap.size v2 wr.drew := HBr.out.drew
     refine teH 0 (.slice A' q c') rfl (by intro W hW; go_simp; try (first | (with_reducible rfl) | omega)) hS0 ?_
     refine teH 1 (.pointer (some ⟨g, 8, none⟩)) rfl (by intro W hW; go_simp; try (first | (with_reducible rfl) | omega)) hS0 ?_
     refine teH 3 (.slice (some ⟨ub, uo, none⟩) m cu) rfl (by intro W hW; go_simp; try (first | (with_reducible rfl) | omega)) hS0 ?_
     refine teH 4 (.int .i64 (j : Int)) rfl (by intro W hW; go_simp; try (first | (with_reducible rfl) | omega)) hS0 ?_
     try go_simp
     refine teH 2 (.slice (some ⟨nb, noff, none⟩) n6 c6) rfl (by intro W hW; have hW2 : Below w1.heap.size w1 W := HS2.out.trans (hW.mono HS2.out.size); obtain ⟨e0, e1, e2, e3, e4, e5, e6, e7, e8, e9, e10⟩ := EQ.out W hW2; have u9 := (hW.cell (p := ⟨ub, uo + j, none⟩) hub).trans HUC.out; have z9 := (hW2.cell (p := ⟨nb, noff + z * 7 + 6, none⟩) hnb).trans HZ6.out; go_simp; try (first | (with_reducible rfl) | omega)) hS0 ?_
     refine teH 5 (.pointer (some ⟨ub, uo + j, none⟩)) rfl (by intro W hW; go_simp; try (first | (with_reducible rfl) | omega)) hS0 ?_
     try go_simp
     refine teH 6 (.int .i64 (z : Int)) rfl (by intro W hW; have hW2 : Below w1.heap.size w1 W := HS2.out.trans (hW.mono HS2.out.size); obtain ⟨e0, e1, e2, e3, e4, e5, e6, e7, e8, e9, e10⟩ := EQ.out W hW2; have u9 := (hW.cell (p := ⟨ub, uo + j, none⟩) hub).trans HUC.out; have z9 := (hW2.cell (p := ⟨nb, noff + z * 7 + 6, none⟩) hnb).trans HZ6.out; go_simp; try (first | (with_reducible rfl) | omega)) hS0 ?_
     try go_simp
     refine teH 7 (.pointer (some ⟨nb, noff + z * 7, none⟩)) rfl (by intro W hW; go_simp; try (first | (with_reducible rfl) | omega)) hS0 ?_
     try go_simp
     refine teH 8 (.pointer (some ⟨nb, noff + z * 7 + 6, none⟩)) rfl (by intro W hW; go_simp; try (first | (with_reducible rfl) | omega)) hS0 ?_
     try go_simp
     refine teH 9 (.int .i64 zr) rfl (by intro W hW; have hW2 : Below w1.heap.size w1 W := HS2.out.trans (hW.mono HS2.out.size); obtain ⟨e0, e1, e2, e3, e4, e5, e6, e7, e8, e9, e10⟩ := EQ.out W hW2; have u9 := (hW.cell (p := ⟨ub, uo + j, none⟩) hub).trans HUC.out; have z9 := (hW2.cell (p := ⟨nb, noff + z * 7 + 6, none⟩) hnb).trans HZ6.out; go_simp; try (first | (with_reducible rfl) | omega)) hS0 ?_
     try go_simp
     have hsd : Below wr.heap.size wr wr.drew := (Below.refl _ _).drew
     obtain ⟨wd, hwd⟩ : ∃ X, wr.drew = X := ⟨_, rfl⟩
     rw [hwd] at hS0 hsd
     rw [hwd]
     clear hwd
     have hodd := Hd (own_keep HO.out hsd)
     have hZ : Hid (v2.heap.size ≤ wd.heap.size) := Hd hS0.size
     have hsrc := Hd (src_int wd zr)
     have HSD := Hd hS0
     obtain ⟨wb, hwb⟩ : ∃ X, World.alloc wd (.cells #[.int .i64 zr] 3) = X := ⟨_, rfl⟩
     obtain ⟨lb, hlb⟩ : ∃ X, (World.heap wd).size = X := ⟨_, rfl⟩
     have hsb : Below v2.heap.size v2 wb := by rw [← hwb]; exact hS0.alloc hS0.size _
     have hOB : Hid (wb.ownsRow v2.heap.size 3 1 (.slice A' q c') q (rowI (((up.take j).filter fun u => decide (0 < u)).map (resM x)))) := Hd (by rw [← hwb]; exact hodd.out.alloc _)
     rw [hwb, hlb] at hsrc
     clear hsd
     refine wpAnyH_one (i := 10) (by kernel_rfl) rfl (fun K hK => ?_)
     go_simp
     refine hK _ _ ⟨hsb, ?_⟩; clear hK K
     refine wpAnyH_one (i := 11) (by kernel_rfl) rfl (fun K hK => ?_)
     refine step_append_src _ rfl _ _ 34 rfl v2.heap.size 3 i0 (.int .i64 0) 1 8 Tryz.underlying34 hi hz0 hz1 hz2 rfl (by decide) (.slice A' q c') q (rowI (((up.take j).filter fun u => decide (0 < u)).map (resM x))) ?qq1 hOB.out (some ⟨lb, 0, none⟩) 1 1 [.int .i64 zr] ?qq2 hsrc.out (one_int _) (by unfold maxLen; omega) (by omega) hsb.size ?_
     case qq1 => go_simp
     case qq2 => go_simp
     intro v' w7 hown' hgrow3 hat3
     rw [← hwb] at hgrow3
     obtain ⟨A2, c2, rfl, X1, X2, _⟩ := app_int HSD.out hZ.out hodd.out hown' hgrow3
     have XR := Hd X1
     have XB := Hd X2
     clear X1 X2 hown' hgrow3 hat3 hwb hlb
     go_simp
     refine hK _ _ ⟨XB.out, ?_⟩; clear hK K
     try go_simp
     refine wpAnyH_one (i := 12) (by kernel_rfl) rfl (fun K hK => ?_)
     go_simp
     refine hK _ _ ⟨XB.out, ?_⟩; clear hK K
     try go_simp
     refine wpAnyH_done (by kernel_rfl) ?_ _
     try go_simp
     go_wp2_with fail
     go_roundw
     case rel => exact ⟨j + 1, q + 1, A2, c2, rfl, by go_num, by omega, by omega, Hd ⟨by rw [HFS2.out]; exact XR.out, XB.out⟩⟩
     case measure => simp [intOf]; omega
    ·obtain rfl : u = 0 := by omega
     have t0b : decide ((0 : Int) < 0) = false := by decide
     have HFS2 : Hid (((up.take (j + 1)).filter fun u => decide (0 < u)).map (resM x) = ((up.take j).filter fun u => decide (0 < u)).map (resM x)) := Hd (by rw [HFS.out, t0b]; simp)
     clear hu HFS hui
     go_wp2_with fail
     go_roundw
     case rel => exact ⟨j + 1, q, A', c', rfl, by go_num, by omega, by omega, Hd ⟨by rw [HFS2.out]; exact HO.out, HBr.out⟩⟩
     case measure => simp [intOf]; omega
   ·obtain rfl : j = m := by omega
    go_wp2_with fail
    go_ret
    exact ⟨A', q, c', rfl, by have h1 := HO.out; rw [List.take_of_length_le (by have := HML.out; omega)] at h1; rw [HCA.out]; exact own_less h1 (Nat.le_trans HB1.out.size HS2.out.size), HBW.out _ HWr.out⟩
end
section
open Go.RowKit
def upd {α : Type} (f : Nat → α) (a : Nat) (b : α) : Nat → α := fun j => if j = a then b else f j
theorem upd_same {α : Type} (f : Nat → α) (a : Nat) (b : α) : upd f a b a = b := by simp [upd]
theorem upd_other {α : Type} (f : Nat → α) {a j : Nat} (b : α) (h : j ≠ a) : upd f a b j = f j := by simp [upd, h]
def arrB (n : Nat) (f : Nat → Bool) : List Value := (List.range n).map fun i => Value.bool (f i)
theorem arrB_len (n : Nat) (f : Nat → Bool) : (arrB n f).length = n := by simp [arrB]
theorem arrB_at {n i : Nat} (f : Nat → Bool) (hi : i < n) : (arrB n f)[i]? = some (.bool (f i)) := by
 simp [arrB, hi]
theorem arrB_set {n i : Nat} (f : Nat → Bool) (v : Bool) : (arrB n f).set i (.bool v) = arrB n (upd f i v) := by
 apply List.ext_getElem?
 intro j
 by_cases hj : j < n
 ·rw [arrB_at _ hj]
  by_cases e : j = i
  ·subst e
   rw [List.getElem?_set_self (by rw [arrB_len]; exact hj), upd_same]
  ·rw [List.getElem?_set_ne (fun h => e h.symm), arrB_at _ hj, upd_other _ _ e]
 ·rw [List.getElem?_eq_none (by simp [arrB_len]; omega), List.getElem?_eq_none (by simp [arrB_len]; omega)]
theorem info_bool : (Tryz.prog.info? 4).map (fun i => (i.zero, i.size, i.bytes)) = some (some (.bool false), 1, 1) := by kernel_rfl
theorem made_bool (n : Nat) (hn : n ≤ 1000) : ∃ zc : Array Value, zc.toList = arrB n (fun _ => false) ∧ ∀ W, (Instr.makeSlice 176 (.int .i64 (n : Int)) (.int .i64 (n : Int))).run Tryz.prog W = .ok (.slice (some ⟨W.heap.size, 0, none⟩) n n) (W.alloc (.cells zc 4)) := by
 obtain ⟨i0, hi, hz0, hz1, hz2⟩ := info_parts info_bool
 refine ⟨madeCells (Value.bool false).cells (n * i0.size), ?_, fun W => ?_⟩
 ·rw [hz1, Nat.mul_one]
  rw [show (Value.bool false).cells = #[Value.bool false] from rfl, toList_madeCells_one]
  apply List.ext_getElem?
  intro j
  by_cases hj : j < n
  ·rw [arrB_at _ hj]; simp [hj]
  ·rw [List.getElem?_eq_none (by simp; omega), List.getElem?_eq_none (by rw [arrB_len]; omega)]
 ·have := run_make (P := Tryz.prog) W 176 4 i0 _ Tryz.underlying176 hi hz0 .i64 .i64 (n : Int) (n : Int) (by omega) (by omega) (by rw [hz2]; omega) (by omega)
  simpa using this
end
section
open Go.RowKit
structure QuW (W : World) (base : Nat) (A : Option Addr) (n c : Nat) (xs : List Int) : Prop where
 len : xs.length = n
 le : n ≤ c
 mx : c ≤ maxLen
 at_ : (A = none ∧ n = 0 ∧ c = 0) ∨ ∃ g o, A = some ⟨g, o, none⟩ ∧ base ≤ g ∧ g < W.heap.size ∧ W.there g o c ∧ W.rangeAt g o (rowI xs)
theorem QuW.kp {S : Nat → Prop} {W W' : World} {base : Nat} {A : Option Addr} {n c : Nat} {xs : List Int} (h : QuW W base A n c xs) (hk : Kp S W W') (hS : ∀ g o, A = some ⟨g, o, none⟩ → ¬ S g) : QuW W' base A n c xs := by
 refine ⟨h.len, h.le, h.mx, ?_⟩
 rcases h.at_ with h1 | ⟨g, o, hA, hb, hlt, ht, hr⟩
 ·exact .inl h1
 ·have hn := hS g o hA
  exact .inr ⟨g, o, hA, hb, Nat.lt_of_lt_of_le hlt hk.size, fun j hj => ⟨by rw [hk.cell (p := ⟨g, o + j, none⟩) hlt hn]; exact (ht j hj).1, by rw [hk.frozen (p := ⟨g, o + j, none⟩) hlt hn]; exact (ht j hj).2⟩, fun j v hv => hk.cellv (hr j v hv) hn⟩
theorem QuW.on {W W' : World} {base : Nat} {A : Option Addr} {n c : Nat} {xs : List Int} (h : QuW W base A n c xs) (hb : Below W.heap.size W W') : QuW W' base A n c xs := h.kp ((Kp.refl (fun _ => False) W).ofBelow hb) fun _ _ _ h => h
theorem QuW.ofOwn {W : World} {base : Nat} {A : Option Addr} {n c : Nat} {xs : List Int} (h : W.ownsRow base 3 1 (.slice A n c) n (rowI xs)) : QuW W base A n c xs := by
 have hl := h.1
 rcases h.2 with ⟨hv, h0⟩ | ⟨g, cap, cur, hv, h1, h2, h3, h4, h5, h6⟩
 ·simp only [Value.slice.injEq] at hv
  obtain ⟨rfl, rfl, rfl⟩ := hv
  exact ⟨by simpa [rowI] using hl, Nat.le_refl _, by unfold maxLen; omega, .inl ⟨rfl, rfl, rfl⟩⟩
 ·simp only [Value.slice.injEq, true_and] at hv
  obtain ⟨rfl, rfl⟩ := hv
  refine ⟨by simpa [rowI] using hl, h3, h4, .inr ⟨g, 0, rfl, h1, (Array.getElem?_eq_some_iff.1 h2).1, fun j hj => ?_, fun j v hv => ?_⟩⟩
  ·refine ⟨?_, by simp [World.frozen?, h2]⟩
   simp only [World.cell?, h2, Nat.zero_add]
   have hj2 : j < cur.size := by omega
   simp [hj2]
  ·have hj := (List.getElem?_eq_some_iff.1 hv).1
   rw [← h6, List.getElem?_take, if_pos (by rw [hl] at hj; omega)] at hv
   simp only [World.cell?, h2, Nat.zero_add]
   simpa using hv
theorem QuW.tail {W : World} {base : Nat} {g o n c : Nat} {x : Int} {xs : List Int} (h : QuW W base (some ⟨g, o, none⟩) n c (x :: xs)) {A : Option Addr} (hA : A = some ⟨g, o + 1, none⟩ ∨ (A = some ⟨g, o, none⟩ ∧ c = 1)) : QuW W base A (n - 1) (c - 1) xs := by
 have hl := h.len
 have hle := h.le
 have hmx := h.mx
 simp at hl
 refine ⟨by omega, by omega, by omega, ?_⟩
 rcases h.at_ with h1 | ⟨g', o', hA', hb, hlt, ht, hr⟩
 ·cases h1.1
 ·injection hA' with hA'
  injection hA' with e1 e2
  subst e1
  subst e2
  rcases hA with rfl | ⟨rfl, hc⟩
  ·refine .inr ⟨g, o + 1, rfl, hb, hlt, fun j hj => ?_, fun j v hv => ?_⟩
   ·have := ht (1 + j) (by omega)
    rwa [← Nat.add_assoc] at this
   ·have := hr (j + 1) v (by simpa [rowI] using hv)
    rwa [Nat.add_comm j 1, ← Nat.add_assoc] at this
  ·refine .inr ⟨g, o, rfl, hb, hlt, fun j hj => by omega, fun j v hv => ?_⟩
   have := (List.getElem?_eq_some_iff.1 hv).1
   have e : xs = [] := List.eq_nil_of_length_eq_zero (by omega)
   subst e
   simp [rowI] at this
section
variable {P : Program} (w : World)
theorem run_append_qu (base : Nat) (t ty e : TypeId) (i : TypeInfo) (z : Value) (ht : P.underlying t = some (.slice e)) (hi : P.info? e = some i) (hz : i.zero = some z)
  (hsize : i.size = 1) (hby : i.bytes = 8) (hzs : z.cells.size = 1) (he : e = 3)
  (A : Option Addr) (n c : Nat) (xs : List Int) (hq : QuW w base A n c xs) (B : Option Addr) (m c2 : Nat) (ys : List Int) (hr : SrcCells w B m 1 (rowI ys)) (h63 : n + m ≤ 1000000000) (hbase : base ≤ w.heap.size) :
  ∃ A' c' w', (Builtin.append_ #[t, t] ty #[.slice A n c, .slice B m c2]).run P w = .ok (.slice A' (n + m) c') w' ∧ QuW w' base A' (n + m) c' (xs ++ ys) ∧ Kp (fun j => ∃ o, A = some ⟨j, o, none⟩) w w' := by
 subst he
 have h1 : ∀ u ∈ rowI ys, u.oneCell' = true := fun u hu => by
  obtain ⟨v, _, rfl⟩ := List.mem_map.1 hu
  rfl
 have hlx := hq.len
 have hly : ys.length = m := by have := hr.1; simpa [rowI] using this
 have happ : rowI xs ++ rowI ys = rowI (xs ++ ys) := by simp [rowI]
 rcases hq.at_ with ⟨rfl, rfl, rfl⟩ | ⟨g, o, rfl, hb, hlt, hth, hra⟩
 ·have hx : xs = [] := List.eq_nil_of_length_eq_zero hlx
  subst hx
  obtain ⟨v', w', hrun, h2, h3, h4⟩ := run_append_src (P := P) w base t ty 3 i z 1 8 ht hi hz hsize hby hzs (by decide) (.slice none 0 0) 0 [] ⟨rfl, .inl ⟨rfl, rfl⟩⟩ B m c2 (rowI ys) hr h1 (by unfold maxLen; omega) (by omega) hbase
  obtain ⟨A', c', rfl, _⟩ := own_form h2
  exact ⟨A', c', w', hrun, QuW.ofOwn (by simpa using h2), ⟨h3.os, h3.tape, h3.output, h3.size, fun k hk _ => h3.block k hk (by simp [Value.ownBlock])⟩⟩
 ·rcases B with _ | ad
  ·have hm := hr.2.1 rfl
   subst hm
   have hy : ys = [] := List.eq_nil_of_length_eq_zero hly
   subst hy
   refine ⟨some ⟨g, o, none⟩, c, w, ?_, by simpa using hq, Kp.refl _ _⟩
   have hle := hq.le
   simp [Builtin.append_, run_underlying ht, sizeOf, typeInfo, hi, Builtin.lenOf, Builtin.firstCells, hle, storeCells]
  ·have hnews : ∀ j u, (rowI ys)[j]? = some u → w.cell? (ad.add j) = some u := hr.2.2 ad rfl
   have hlr : (rowI ys).length = m * 1 := by simp [rowI, hly]
   by_cases hroom : n + m ≤ c
   ·have hrun := run_append_room_cells (P := P) w t ty 3 i ht hi g o n c ad m c2 (rowI ys) (by rw [hsize]; exact hlr) hnews h1 hroom (fun j hj => by
     have := (hth (n + j) (by rw [hlr] at hj; omega)).1
     rw [hsize, Nat.mul_one, Nat.add_assoc]
     exact this) (fun j hj => by
     have := (hth (n + j) (by rw [hlr] at hj; omega)).2
     rw [hsize, Nat.mul_one, Nat.add_assoc]
     exact this)
    rw [hsize, Nat.mul_one] at hrun
    refine ⟨_, _, _, hrun, ⟨by simp; omega, hroom, hq.mx, .inr ⟨g, o, rfl, hb, ?_, World.there_setCells hth _ _ _, fun j v hv => ?_⟩⟩, (Kp.refl _ w).setCells (fun _ => ⟨o, rfl⟩) _ _⟩
    ·exact Nat.lt_of_lt_of_le hlt ((Kp.refl (fun _ => True) w).setCells (g := g) (fun _ => trivial) (o + n) (rowI ys)).size
    ·rw [← happ] at hv
     by_cases hj : j < n
     ·rw [List.getElem?_append_left (by simpa [rowI, hlx] using hj)] at hv
      rw [World.cell?_setCells_out _ _ _ _ _ (fun _ _ => .inl (by show o + j < o + n; omega))]
      exact hra j v hv
     ·rw [List.getElem?_append_right (by simp [rowI, hlx]; omega)] at hv
      have hs := World.rangeAt_setCells_same w g (o + n) (rowI ys) (fun k hk => by
       have := hth (n + k) (by rw [hlr] at hk; omega)
       rwa [← Nat.add_assoc] at this)
      have := hs (j - (rowI xs).length) v hv
      have e : o + n + (j - (rowI xs).length) = o + j := by simp [rowI, hlx]; omega
      rwa [e] at this
   ·obtain ⟨v', w', hrun, h2, h3⟩ := run_append_arg_grows (P := P) w t ty 3 i z 1 8 ht hi hz hsize hby hzs (by decide) ⟨g, o, none⟩ n c (rowI xs) (by simp [rowI, hlx]) (fun j u hj => by rw [Addr.add_mid]; exact hra j u hj) ad m c2 (rowI ys) hlr hnews (by omega) (by unfold maxLen; omega) (by omega)
    rw [happ] at h2
    obtain ⟨A', c', rfl, _⟩ := own_form h2
    exact ⟨A', c', w', hrun, QuW.ofOwn (h2.mono hbase), ⟨h3.os, h3.tape, h3.output, h3.size, fun k hk _ => h3.block k hk (by simp)⟩⟩
theorem wp_append_qu {o : Oper} {a : Act} {K : Act → World → Prop} {Q : Exit → Act → World → Prop} (s x : Operand) (t : TypeId)
  (ho : o.op = .call { callee := .builtin .append, args := #[s, x], argTypes := #[t, t] })
  (base : Nat) (e : TypeId) (i : TypeInfo) (z : Value) (ht : P.underlying t = some (.slice e)) (hi : P.info? e = some i) (hz : i.zero = some z)
  (hsize : i.size = 1) (hby : i.bytes = 8) (hzs : z.cells.size = 1) (he : e = 3)
  (A : Option Addr) (n c : Nat) (xs : List Int) (hs : a.eval s = .slice A n c) (hq : QuW w base A n c xs) (B : Option Addr) (m c2 : Nat) (ys : List Int) (hx : a.eval x = .slice B m c2) (hr : SrcCells w B m 1 (rowI ys)) (h63 : n + m ≤ 1000000000) (hbase : base ≤ w.heap.size)
  (h : ∀ A' c' w', QuW w' base A' (n + m) c' (xs ++ ys) → Kp (fun j => ∃ o, A = some ⟨j, o, none⟩) w w' → K (a.put o.dst (.slice A' (n + m) c')) w') : o.wp P a w K Q := by
 obtain ⟨A', c', w', hrun, h2, h3⟩ := run_append_qu (P := P) w base t o.type e i z ht hi hz hsize hby hzs he A n c xs hq B m c2 ys hr h63 hbase
 unfold Oper.wp execOp
 simp only [ho, resolve, invoke, builtin, Sem.run_bind, Sem.run_pure, Result.andThen_ok, List.map_toArray, List.map_cons, List.map_nil, hs, hx, hrun]
 exact h A' c' w' h2 h3
theorem wpList_append_qu {ops : Array Oper} {rest : List Oper} {o : Oper} {a : Act} {Q : Exit → Act → World → Prop} (hgd : o.guard = none) (s x : Operand) (t : TypeId)
  (ho : o.op = .call { callee := .builtin .append, args := #[s, x], argTypes := #[t, t] })
  (base : Nat) (e : TypeId) (i : TypeInfo) (z : Value) (ht : P.underlying t = some (.slice e)) (hi : P.info? e = some i) (hz : i.zero = some z)
  (hsize : i.size = 1) (hby : i.bytes = 8) (hzs : z.cells.size = 1) (he : e = 3)
  (A : Option Addr) (n c : Nat) (xs : List Int) (hs : a.eval s = .slice A n c) (hq : QuW w base A n c xs) (B : Option Addr) (m c2 : Nat) (ys : List Int) (hx : a.eval x = .slice B m c2) (hr : SrcCells w B m 1 (rowI ys)) (h63 : n + m ≤ 1000000000) (hbase : base ≤ w.heap.size)
  (h : ∀ A' c' w', QuW w' base A' (n + m) c' (xs ++ ys) → Kp (fun j => ∃ o, A = some ⟨j, o, none⟩) w w' → wpList P ops Q rest (a.put o.dst (.slice A' (n + m) c')) w') : wpList P ops Q (o :: rest) a w :=
 wpList_plain hgd fun _ hK => wp_append_qu w s x t ho base e i z ht hi hz hsize hby hzs he A n c xs hs hq B m c2 ys hx hr h63 hbase fun A' c' w' h2 h3 => hK _ _ (h A' c' w' h2 h3)
end
end
end Go.Proofs.YtobmjnmcjddhcaaGreat
