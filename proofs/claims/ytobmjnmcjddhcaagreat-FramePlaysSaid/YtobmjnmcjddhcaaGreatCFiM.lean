import Derived.Test.YtobmjnmcjddhcaaGreatCTk
import Derived.Test.YtobmjnmcjddhcaaGreatCFiL
import Derived.Test.YtobmjnmcjddhcaaGreatCPiv
set_option linter.unusedSimpArgs false
set_option linter.unusedVariables false
set_option maxRecDepth 100000
set_option maxHeartbeats 16000000
namespace Go.Proofs.YtobmjnmcjddhcaaGreat
open Go.RowKit
section
variable {P : Program} {ops : Array Oper} {Q : Exit → Act → World → Prop} {md : Region.Mode} {R : World → Prop} {pv : Nat}
theorem wpAnyG_tk {i k : Nat} (l : List Nat) {oi : Oper} {v : Value} {fuel : Nat} {listed : Array Bool} {a : Act} {w : World} (hi : ops[i]? = some oi) (hp : pathB md ops (pv :: k :: l) = true) (hl : (k :: l).getLast? = some i)
  (hs : Region.noSelect ops = true) (hf : Region.free md ops listed i = true) (hr : (Region.ready md ops listed).contains i = true)
  (hw : Region.wanted oi (yielded ops a.tmps) = true) (hv : ∀ w, R w → (execOp a.eval oi).run P w = .ok (.value v) w)
  (hQ : ∀ c a w, Q (.panic c) (a.put oi.dst v) w → Q (.panic c) a w) (hcl : closedB md ops listed = true) (hu : listed.getD pv true = false) (hS : R w)
  (h : wpAnyG P md ops Q R pv fuel (listed.setIfInBounds i true) (a.put oi.dst v) w) : wpAnyG P md ops Q R pv (fuel + 1) listed a w :=
 wpAnyG_take l hi hp hl hs hf hr hQ (Or.inl ⟨hw, hv⟩) hcl hu hS h
end
def IsWx (w : World) (e : Ending) (w' : World) : Prop := ∃ s : W4, s.Ok ∧ e = .returned (aggW s) ∧ Below w.heap.size w w'
def IsIdx (n : Nat) (w : World) (e : Ending) (w' : World) : Prop := ∃ l : List Int, IsRow l w e w' ∧ l.length ≤ n ∧ ∀ u ∈ l, 0 ≤ u ∧ u < (n : Int)
theorem rown13_any (A : Option Addr) (n c : Nat) (xs : List DNode) (q : Nat) (w : World) (h : SlN w w.heap.size A n c xs) (hno : nodesOk xs) (hq : q < n) (hn : n ≤ 20) :
  Calls Tryz.prog 153 #[.slice A n c, .int .i64 (q : Int)] w (IsWx w) := by
 obtain ⟨b, off, z, rfl, hb, hz, -, -, -, u3, -, u5, -⟩ := sln_at h (k := q) (by omega)
 obtain ⟨-, -, -, -, -, -, k6, k7, k8, k9, -⟩ := hno.2.2 q z hz
 obtain ⟨zf, hzf⟩ : ∃ v, z.from_ = v := ⟨_, rfl⟩
 obtain ⟨zt, hzt⟩ : ∃ v, z.to_ = v := ⟨_, rfl⟩
 rw [hzf] at u3 k6 k7 k8
 rw [hzt] at u5 k8 k9
 obtain ⟨w1, hw1⟩ : ∃ X, w.alloc (.cells #[.int .u64 0, .int .u64 0, .int .u64 0, .int .u64 0] 216) = X := ⟨_, rfl⟩
 obtain ⟨g1, hg1⟩ : ∃ X, w.heap.size = X := ⟨_, rfl⟩
 have hb1 : Below w.heap.size w w1 := by rw [← hw1]; exact bl_one _
 have hc1 : Cells w1 g1 [.int .u64 0, .int .u64 0, .int .u64 0, .int .u64 0] := by rw [← hw1, ← hg1]; exact Cells.new w [.int .u64 0, .int .u64 0, .int .u64 0, .int .u64 0] _
 have HB1 := Lib.hid hb1
 have HC1 := Lib.hid hc1
 have HLOW : Hid (w.heap.size ≤ g1 ∧ b < g1) := Lib.hid ⟨by omega, by omega⟩
 have HUU : Hid (∀ W, Kp (fun i => i = g1) w1 W → W.cell? ⟨b, off + q * 7 + 3, none⟩ = some (.int .i64 zf) ∧ W.cell? ⟨b, off + q * 7 + 5, none⟩ = some (.int .i64 zt)) := Lib.hid fun W hW => ⟨hW.cellv ((hb1.cell (p := ⟨b, off + q * 7 + 3, none⟩) hb).trans u3) (by have := HLOW.out.2; show ¬ b = g1; omega), hW.cellv ((hb1.cell (p := ⟨b, off + q * 7 + 5, none⟩) hb).trans u5) (by have := HLOW.out.2; show ¬ b = g1; omega)⟩
 obtain ⟨s, hs⟩ : ∃ s, rangeM zf zt = s := ⟨_, rfl⟩
 have HSO : Hid s.Ok := Lib.hid (by rw [← hs]; exact rangeM_ok _ _)
 have cR : Hid (∀ W, Calls Tryz.prog 157 #[.int .i64 zf, .int .i64 zt] W (IsW s W)) := Lib.hid fun W => by rw [← hs]; exact rrange_any _ _ W (by omega) (by omega)
 have hq0 : (0 : Int) ≤ (q : Int) := by omega
 have hq1 : (q : Int) < (n : Int) := by omega
 have hn1 : (n : Int) ≤ 20 := by omega
 have t0 : decide ((q : Int) < 0) = false := by rw [decide_eq_false_iff_not]; omega
 have t1 : decide ((q : Int) ≥ (n : Int)) = false := by rw [decide_eq_false_iff_not]; omega
 have t1b : decide (n ≤ q) = false := by rw [decide_eq_false_iff_not]; omega
 have t0b : decide (q < 0) = false := by rw [decide_eq_false_iff_not]; omega
 clear h hno hz u3 u5 hzf hzt hb1 hc1 hs hb
 go_enter Tryz.func153, Tryz.ntmps153
 go_wp2_with fail
 refine wp_region_held (S := fun W => Kp (fun i => i = g1) w1 W) (by kernel_rfl) ?_
 change wpAnyH _ _ _ _ _ _ _ _ (World.drew _)
 have hS0 : Kp (fun i => i = g1) w1 w1.drew := (Kp.refl _ _).drew
 refine tkH 0 rfl (by intro W hW; go_simp; first | done | rfl) hS0 ?_
 try go_simp
 refine tkH 1 rfl (by intro W hW; go_simp; first | done | rfl) hS0 ?_
 try go_simp
 refine tkH 2 rfl (by intro W hW; go_simp; first | done | rfl) hS0 ?_
 try go_simp
 refine tkH 3 rfl (by intro W hW; go_simp; first | done | rfl) hS0 ?_
 try go_simp
 refine tkH 4 rfl (by intro W hW; obtain ⟨a3, a5⟩ := HUU.out W hW; go_simp; first | done | rfl) hS0 ?_
 try go_simp
 refine tkH 5 rfl (by intro W hW; go_simp; first | done | rfl) hS0 ?_
 try go_simp
 refine tkH 6 rfl (by intro W hW; go_simp; first | done | rfl) hS0 ?_
 try go_simp
 refine tkH 7 rfl (by intro W hW; go_simp; first | done | rfl) hS0 ?_
 try go_simp
 refine tkH 8 rfl (by intro W hW; go_simp; first | done | rfl) hS0 ?_
 try go_simp
 refine tkH 9 rfl (by intro W hW; obtain ⟨a3, a5⟩ := HUU.out W hW; go_simp; first | done | rfl) hS0 ?_
 try go_simp
 refine wpAnyH_one (i := 10) (by kernel_rfl) rfl (fun K hK => ?_)
 go_simp
 refine (cR.out _).mono ?_
 rintro e v1 ⟨rfl, hb2⟩
 have hB2 : Below w1.heap.size w1 v1 := below_drew_of hb2
 have hS1 : Kp (fun i => i = g1) w1 v1 := (Kp.refl _ _).ofBelow hB2
 clear hb2
 go_simp
 refine hK _ _ ⟨hS1, ?_⟩; clear hK K
 try go_simp
 have hc9 := HC1.out.on hB2
 have v0 := hc9.at_ 0 _ rfl
 have v1' := hc9.at_ 1 _ rfl
 have v2 := hc9.at_ 2 _ rfl
 have v3 := hc9.at_ 3 _ rfl
 have f0 := hc9.fz 0 (by simp)
 have f1 := hc9.fz 1 (by simp)
 have f2 := hc9.fz 2 (by simp)
 have f3 := hc9.fz 3 (by simp)
 have HC9 := Lib.hid hc9
 have HBF : Hid (Below w.heap.size w v1) := Lib.hid (HB1.out.trans (hB2.mono HB1.out.size))
 have hSX : Kp (fun i => i = g1) w1 (set4 v1 g1 s) := ((((hS1.setCell (p := ⟨g1, 0, none⟩) (fun _ => rfl) _).setCell (p := ⟨g1, 1, none⟩) (fun _ => rfl) _).setCell (p := ⟨g1, 2, none⟩) (fun _ => rfl) _).setCell (p := ⟨g1, 3, none⟩) (fun _ => rfl) _)
 clear hc9 hB2
 refine wpAnyH_one (i := 11) (by kernel_rfl) rfl (fun K hK => ?_)
 go_simp
 refine hK _ _ ⟨hSX, ?_⟩; clear hK K
 try go_simp
 refine wpAnyH_done (by kernel_rfl) ?_ _
 try go_simp
 clear hS0 hS1 hSX
 have HE2 : Hid (s = s) := Lib.hid rfl
 go_wp2_with fail
 obtain ⟨wx, hwx⟩ : ∃ X, (World.setCell (World.setCell (World.setCell (World.setCell v1 ⟨g1, 0, none⟩ (.int .u64 (s.a0 : Int))) ⟨g1, 1, none⟩ (.int .u64 (s.a1 : Int))) ⟨g1, 2, none⟩ (.int .u64 (s.a2 : Int))) ⟨g1, 3, none⟩ (.int .u64 (s.a3 : Int))) = X := ⟨_, rfl⟩
 have hcx : Cells wx g1 [.int .u64 (s.a0 : Int), .int .u64 (s.a1 : Int), .int .u64 (s.a2 : Int), .int .u64 (s.a3 : Int)] := by rw [← hwx]; exact (Cells.put (Cells.put (Cells.put (Cells.put HC9.out 0 (by simp) (.int .u64 (s.a0 : Int))) 1 (by simp) (.int .u64 (s.a1 : Int))) 2 (by simp) (.int .u64 (s.a2 : Int))) 3 (by simp) (.int .u64 (s.a3 : Int)))
 have hbx : Below w.heap.size w wx := by rw [← hwx]; exact (Below.setCell (Below.setCell (Below.setCell (Below.setCell HBF.out (p := ⟨g1, 0, none⟩) HLOW.out.1 (.int .u64 (s.a0 : Int))) (p := ⟨g1, 1, none⟩) HLOW.out.1 (.int .u64 (s.a1 : Int))) (p := ⟨g1, 2, none⟩) HLOW.out.1 (.int .u64 (s.a2 : Int))) (p := ⟨g1, 3, none⟩) HLOW.out.1 (.int .u64 (s.a3 : Int)))
 have rz0 := hcx.at_ 0 _ rfl
 have rz1 := hcx.at_ 1 _ rfl
 have rz2 := hcx.at_ 2 _ rfl
 have rz3 := hcx.at_ 3 _ rfl
 try rw [hwx]
 refine bodyPost_ret (v := aggW s) (by simp [results, Tryz.results153, go_sem, rz0, rz1, rz2, rz3]) rfl ⟨s, HSO.out, rfl, hbx⟩
theorem rkids_any (A : Option Addr) (n c : Nat) (xs : List DNode) (q : Nat) (w : World) (h : SlN w w.heap.size A n c xs) (hn : n ≤ 20) :
  Calls Tryz.prog 154 #[.slice A n c, .int .i64 (q : Int)] w (IsIdx n w) := by
 obtain ⟨i0, hi, hz0, hz1, hz2⟩ := info_parts info_int
 have H := Lib.hid h
 have hn1 : (n : Int) ≤ 20 := by omega
 have hq0 : (0 : Int) ≤ (q : Int) := by omega
 have t0 : decide ((q : Int) ≥ 0) = true := by rw [decide_eq_true_eq]; omega
 clear h
 go_enter Tryz.func154, Tryz.ntmps154
 go_wp2_with fail
 go_loopw [5, 6] (fun ov iv wr => ∃ (k j : Nat) (A' : Option Addr) (c' : Nat), ov = .slice A' k c' ∧ iv = .int .i64 (j : Int) ∧ j ≤ n ∧ k ≤ j ∧ Hid (∃ l, wr.ownsRow w.heap.size 3 1 (.slice A' k c') k (rowI l) ∧ (∀ u ∈ l, 0 ≤ u ∧ u < (n : Int)) ∧ Below w.heap.size w wr)) (fun _ iv _ => n - (intOf iv).toNat)
 case atStart => exact ⟨0, 0, none, 0, rfl, rfl, Nat.zero_le _, Nat.le_refl _, Lib.hid ⟨[], ⟨rfl, .inl ⟨rfl, rfl⟩⟩, by simp, Below.refl _ _⟩⟩
 case round =>
  obtain ⟨k, j, A', c', rfl, rfl, hj, hk, HK⟩ := hrel
  obtain ⟨l, hown, hin, hbw⟩ := HK.out
  have HO := Lib.hid hown
  have HI := Lib.hid hin
  have HB := Lib.hid hbw
  have hj0 : (0 : Int) ≤ (j : Int) := by omega
  have hk1 : (k : Int) ≤ 20 := by omega
  clear hown hin hbw HK
  by_cases hlt : j < n
  ·have hjn : (j : Int) < (n : Int) := by omega
   obtain ⟨b, off, z, rfl, hbq, hz, hc0, _⟩ := sln_at H.out (k := j) hlt
   obtain ⟨zp, hzp⟩ : ∃ v, z.parent = v := ⟨_, rfl⟩
   rw [hzp] at hc0
   have yq := (HB.out.cell (p := ⟨b, off + j * 7, none⟩) hbq).trans hc0
   have hZ : Hid (w.heap.size ≤ wr.heap.size) := Lib.hid HB.out.size
   have hsrc := Lib.hid (src_int wr (j : Int))
   clear hz hzp hc0
   by_cases hp : zp = (q : Int)
   ·have tp : (zp == (q : Int)) = true := by rw [beq_iff_eq]; exact hp
    subst hp
    go_wp2_with (first
      | (at_builtin; go_must (refine wpList_append_src _ rfl _ _ 34 rfl w.heap.size 3 i0 (.int .i64 0) 1 8 Tryz.underlying34 hi hz0 hz1 hz2 rfl (by decide) _ _ _ rfl (HO.out.alloc _) (some ⟨wr.heap.size, 0, none⟩) 1 1 [.int .i64 (j : Int)] rfl hsrc.out (one_int _) (by unfold maxLen; omega) (by omega) (by have := hZ.out; simp; omega) ?_)
         intro v' w7 hown' hgrow3 hat3
         obtain ⟨A', c', rfl, X1, X2, _⟩ := app_int HB.out hZ.out HO.out hown' hgrow3
         skip
         have XR := Lib.hid X1
         have XB := Lib.hid X2
         clear X1 X2 hown' hgrow3 hat3)
      | fail)
    go_roundw
    case rel =>
     refine ⟨k + 1, j + 1, _, _, rfl, by go_num, by omega, by omega, Lib.hid ⟨l ++ [(j : Int)], ?_, ?_, XB.out⟩⟩
     ·have := XR.out
      simpa [rowI] using this
     ·intro u hu
      rcases List.mem_append.1 hu with hu | hu
      ·exact HI.out u hu
      ·obtain rfl := List.mem_singleton.1 hu
       exact ⟨by omega, by omega⟩
    case measure => first | (simp [intOf]; done) | (simp [intOf]; omega)
   ·have tp : (zp == (q : Int)) = false := by rw [beq_eq_false_iff_ne]; exact hp
    go_wp2_with fail
    go_roundw
    case rel => exact ⟨k, j + 1, _, _, rfl, by go_num, by omega, by omega, Lib.hid ⟨l, HO.out, HI.out, HB.out⟩⟩
    case measure => first | (simp [intOf]; done) | (simp [intOf]; omega)
  ·obtain rfl : j = n := by omega
   go_wp2_with fail
   go_ret
   exact ⟨l, ⟨_, _, _, rfl, HO.out, HB.out⟩, by have := row_len HO.out; omega, HI.out⟩
theorem rinside13_any (A : Option Addr) (n c : Nat) (xs : List DNode) (m u : Int) (w : World) (h : SlN w w.heap.size A n c xs) (hn : n ≤ 20) :
  Calls Tryz.prog 175 #[.slice A n c, .int .i64 m, .int .i64 u] w (IsBool w) := by
 have cU := Lib.hid (rup_any A n c xs m w h hn)
 obtain ⟨up, hup⟩ : ∃ l, upM xs (n + 1) m = l := ⟨_, rfl⟩
 have HUL : Hid (up.length ≤ 21) := Lib.hid (by rw [← hup]; exact Nat.le_trans (upM_len _ _ _) (by omega))
 rw [hup] at cU
 clear h hup
 go_enter Tryz.func175, Tryz.ntmps175
 go_wp2_with fail
 refine cU.out.mono ?_
 rintro e w1 ⟨U, k, cu, rfl, hou, hb1⟩
 have HSU := Lib.hid (SlI.own hou (by have := row_len hou; have := HUL.out; omega))
 have hk1 : k ≤ 21 := by have := row_len hou; have := HUL.out; omega
 have hk0 : (k : Int) ≤ 21 := by omega
 have HB1 := Lib.hid hb1
 clear hou hb1 cU
 go_wp2_with fail
 go_loopw [8] (fun iv wr => ∃ (j : Nat), iv = .int .i64 (j : Int) ∧ j ≤ k ∧ wr = w1) (fun iv _ => k - (intOf iv).toNat)
 case atStart => exact ⟨0, rfl, Nat.zero_le _, rfl⟩
 case round =>
  obtain ⟨j, rfl, hj, rfl⟩ := hrel
  have hj0 : (0 : Int) ≤ (j : Int) := by omega
  by_cases hlt : j < k
  ·have hjk : (j : Int) < (k : Int) := by omega
   obtain ⟨ub, uo, v, rfl, hub, _, uc0⟩ := SlR.cell1 (f := Value.int .i64) HSU.out (i := j) hlt
   by_cases hv : v = u
   ·have tv : (v == u) = true := by rw [beq_iff_eq]; exact hv
    subst hv
    go_wp2_with fail
    go_ret
    exact ⟨⟨_, rfl⟩, HB1.out⟩
   ·have tv : (v == u) = false := by rw [beq_eq_false_iff_ne]; exact hv
    go_wp2_with fail
    go_roundw
    case rel => exact ⟨j + 1, by go_num, by omega, trivial⟩
    case measure => first | (simp [intOf]; done) | (simp [intOf]; omega)
  ·obtain rfl : j = k := by omega
   go_wp2_with fail
   go_ret
   exact ⟨⟨_, rfl⟩, HB1.out⟩
end Go.Proofs.YtobmjnmcjddhcaaGreat
