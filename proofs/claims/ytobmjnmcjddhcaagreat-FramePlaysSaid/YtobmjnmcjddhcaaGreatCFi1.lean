import Derived.Test.YtobmjnmcjddhcaaGreatCFi0
import Derived.Test.YtobmjnmcjddhcaaGreatCFs1
import Derived.Test.YtobmjnmcjddhcaaGreatCB1
set_option linter.unusedSimpArgs false
set_option linter.unusedVariables false
set_option maxRecDepth 100000
set_option maxHeartbeats 16000000
namespace Go.Proofs.YtobmjnmcjddhcaaGreat
open Go.RowKit
def zN : DNode := ⟨0, 0, 0, 0, 0, 0, 0⟩
def upM (xs : List DNode) : Nat → Int → List Int
 | 0, _ => []
 | k + 1, n => if 0 ≤ n ∧ n < (xs.length : Int) then n :: upM xs k (xs.getD n.toNat zN).parent else []
theorem upM_in (xs : List DNode) : ∀ (k : Nat) (n : Int), ∀ u ∈ upM xs k n, 0 ≤ u ∧ u < (xs.length : Int)
 | 0, n, u, h => by simp [upM] at h
 | k + 1, n, u, h => by
  unfold upM at h
  split at h
  ·rename_i hc
   rcases List.mem_cons.1 h with rfl | h
   ·exact hc
   ·exact upM_in xs k _ u h
  ·cases h
theorem upM_len (xs : List DNode) : ∀ (k : Nat) (n : Int), (upM xs k n).length ≤ k
 | 0, n => by simp [upM]
 | k + 1, n => by
  unfold upM
  split
  ·have := upM_len xs k (xs.getD n.toNat zN).parent
   simp only [List.length_cons]; omega
  ·simp
def IsRow (l : List Int) (w : World) (e : Ending) (w' : World) : Prop := ∃ A k c, e = .returned (.slice A k c) ∧ w'.ownsRow w.heap.size 3 1 (.slice A k c) k (rowI l) ∧ Below w.heap.size w w'
theorem row_len {w : World} {base k : Nat} {v : Value} {l : List Int} (h : w.ownsRow base 3 1 v k (rowI l)) : l.length = k := by
 have := h.1
 simpa [rowI] using this
theorem rup_any (A : Option Addr) (n c : Nat) (xs : List DNode) (m : Int) (w : World) (h : SlN w w.heap.size A n c xs) (hn : n ≤ 20) :
  Calls Tryz.prog 172 #[.slice A n c, .int .i64 m] w (IsRow (upM xs (n + 1) m) w) := by
 obtain ⟨i0, hi, hz0, hz1, hz2⟩ := info_parts info_int
 have H := Lib.hid h
 have hl := Lib.hid h.1
 have hn1 : (n : Int) ≤ 20 := by omega
 have hn0 : (0 : Int) ≤ (n : Int) := by omega
 clear h
 go_enter Tryz.func172, Tryz.ntmps172
 go_wp2_with fail
 go_loopw [1, 5, 6] (fun nv ov iv wr => ∃ (k : Nat) (y : Int) (A' : Option Addr) (c' : Nat), nv = .int .i64 y ∧ ov = .slice A' k c' ∧ iv = .int .i64 (k : Int) ∧ k ≤ n + 1 ∧ Hid (∃ l, wr.ownsRow w.heap.size 3 1 (.slice A' k c') k (rowI l) ∧ upM xs (n + 1) m = l ++ upM xs (n + 1 - k) y ∧ Below w.heap.size w wr)) (fun _ _ iv _ => n + 2 - (intOf iv).toNat)
 case atStart => exact ⟨0, m, none, 0, rfl, rfl, rfl, by omega, Lib.hid ⟨[], ⟨rfl, .inl ⟨rfl, rfl⟩⟩, rfl, Below.refl _ _⟩⟩
 case round =>
  obtain ⟨k, y, A', c', rfl, rfl, rfl, hk, HK⟩ := hrel
  obtain ⟨l, hown, hup, hbw⟩ := HK.out
  have HO := Lib.hid hown
  have HU := Lib.hid hup
  have HB := Lib.hid hbw
  have hk0 : (0 : Int) ≤ (k : Int) := by omega
  have hk1 : (k : Int) ≤ 21 := by omega
  clear hown hup hbw HK
  by_cases hlt : k ≤ n
  ·have t0 : decide ((k : Int) ≤ (n : Int)) = true := by rw [decide_eq_true_eq]; omega
   have t0' : decide (k ≤ n) = true := by rw [decide_eq_true_eq]; omega
   by_cases hy0 : 0 ≤ y
   ·have t1 : decide (y ≥ 0) = true := by rw [decide_eq_true_eq]; omega
    by_cases hy1 : y < (n : Int)
    ·have t2 : decide (y < (n : Int)) = true := by rw [decide_eq_true_eq]; omega
     obtain ⟨q, rfl⟩ := Int.eq_ofNat_of_zero_le hy0
     obtain ⟨b, off, z, rfl, hbq, hz, hc0, _⟩ := sln_at H.out (k := q) (by omega)
     have HE : Hid (upM xs (n + 1 - k) (q : Int) = (q : Int) :: upM xs (n + 1 - (k + 1)) z.parent) := Lib.hid (by
      have e : n + 1 - k = (n + 1 - (k + 1)) + 1 := by omega
      have hll := hl.out
      rw [e, upM, if_pos ⟨by omega, by omega⟩]
      have : xs.getD (q : Int).toNat zN = z := by rw [List.getD_eq_getElem?_getD, show ((q : Int).toNat) = q from rfl, hz]; rfl
      rw [this])
     obtain ⟨zp, hzp⟩ : ∃ v, z.parent = v := ⟨_, rfl⟩
     rw [hzp] at hc0 HE
     have hZ : Hid (w.heap.size ≤ wr.heap.size) := Lib.hid HB.out.size
     have hsrc := Lib.hid (src_int wr (q : Int))
     have HC0 := Lib.hid hc0
     have hq : (q : Int) < (n : Int) := hy1
     have t2' : decide (q < n) = true := by rw [decide_eq_true_eq]; omega
     clear hz hzp hc0
     go_wp2_with (first
       | (at_builtin; go_must (refine wpList_append_src _ rfl _ _ 34 rfl w.heap.size 3 i0 (.int .i64 0) 1 8 Tryz.underlying34 hi hz0 hz1 hz2 rfl (by decide) _ _ _ rfl (HO.out.alloc _) (some ⟨wr.heap.size, 0, none⟩) 1 1 [.int .i64 (q : Int)] rfl hsrc.out (one_int _) (by unfold maxLen; omega) (by omega) (by have := hZ.out; simp; omega) ?_)
          intro v' w7 hown' hgrow3 hat3
          obtain ⟨A', c', rfl, X1, X2, _⟩ := app_int HB.out hZ.out HO.out hown' hgrow3
          have yq := (X2.cell (p := ⟨b, off + q * 7, none⟩) hbq).trans HC0.out
          have XR := Lib.hid X1
          have XB := Lib.hid X2
          clear X1 X2 hown' hgrow3 hat3)
       | fail)
     go_roundw
     case rel => exact ⟨k + 1, zp, A', c', rfl, rfl, by go_num, by omega, Lib.hid ⟨l ++ [(q : Int)], XR.out, by rw [HU.out, HE.out]; simp, XB.out⟩⟩
     case measure => simp [intOf]; omega
    ·have t2 : decide (y < (n : Int)) = false := by rw [decide_eq_false_iff_not]; omega
     have HE : Hid (upM xs (n + 1) m = l) := Lib.hid (by
      have e : n + 1 - k = (n - k) + 1 := by omega
      have hll := hl.out
      rw [HU.out, e, upM, if_neg (by omega), List.append_nil])
     go_wp2_with fail
     go_ret
     exact ⟨A', k, c', rfl, by rw [HE.out]; exact HO.out, HB.out⟩
   ·have t1 : decide (y ≥ 0) = false := by rw [decide_eq_false_iff_not]; omega
    have HE : Hid (upM xs (n + 1) m = l) := Lib.hid (by
     have e : n + 1 - k = (n - k) + 1 := by omega
     rw [HU.out, e, upM, if_neg (by omega), List.append_nil])
    go_wp2_with fail
    go_ret
    exact ⟨A', k, c', rfl, by rw [HE.out]; exact HO.out, HB.out⟩
  ·obtain rfl : k = n + 1 := by omega
   have t0 : decide (((n + 1 : Nat) : Int) ≤ (n : Int)) = false := by rw [decide_eq_false_iff_not]; omega
   have t0' : decide (n + 1 ≤ n) = false := by rw [decide_eq_false_iff_not]; omega
   have t0'' : decide ((n : Int) + 1 ≤ (n : Int)) = false := by rw [decide_eq_false_iff_not]; omega
   have HE : Hid (upM xs (n + 1) m = l) := Lib.hid (by rw [HU.out, Nat.sub_self, upM, List.append_nil])
   go_wp2_with fail
   go_ret
   exact ⟨A', n + 1, c', rfl, by rw [HE.out]; exact HO.out, HB.out⟩
end Go.Proofs.YtobmjnmcjddhcaaGreat
