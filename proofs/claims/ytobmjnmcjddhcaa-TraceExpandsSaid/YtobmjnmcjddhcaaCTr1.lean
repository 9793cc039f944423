/-
  Tracebacks: a line, a node and those above it, by the program.
-/
import Derived.Test.YtobmjnmcjddhcaaCFiR
import Derived.Test.YtobmjnmcjddhcaaCNd
import Derived.WalkMore
namespace Go.Proofs.Ytobmjnmcjddhcaa
open Go.RowKit
set_option linter.unusedSimpArgs false
set_option linter.unusedVariables false
theorem pline_any (A : Option Addr) (n c : Nat) (xs : List Int) (k : Nat) (w : World) (h : SlI w w.heap.size A n c xs) (hk : k < n) (hn : n ≤ 1000) :
    Calls Try.prog 24 #[.slice A n c, .int .i64 (k : Int)] w fun e w' => e = .returned (.int .i64 (xs.getD k 0)) ∧ w = w' := by
  obtain ⟨b, off, v, rfl, hb, hv, hc⟩ := SlR.cell1 (f := Value.int .i64) h (i := k) hk
  have HV : Hid (xs.getD k 0 = v) := Lib.hid (by rw [List.getD_eq_getElem?_getD, hv]; rfl)
  rw [HV.out]
  have hk0 : (0 : Int) ≤ (k : Int) := by omega
  have hkn : (k : Int) < (n : Int) := by omega
  have t0 : decide ((k : Int) < 0) = false := by rw [decide_eq_false_iff_not]; omega
  have t0b : decide (k < 0) = false := by rw [decide_eq_false_iff_not]; omega
  have t1 : decide ((k : Int) ≥ (n : Int)) = false := by rw [decide_eq_false_iff_not]; omega
  have t1b : decide (n ≤ k) = false := by rw [decide_eq_false_iff_not]; omega
  clear h hv
  go_enter Try.func24, Try.ntmps24
  go_wp2_with fail
  go_ret
  exact ⟨rfl, rfl⟩
theorem pis_any (A : Option Addr) (n c : Nat) (m : Int) (w : World) (hn : n ≤ 1000) :
    Calls Try.prog 33 #[.slice A n c, .int .i64 m] w fun e w' => e = .returned (.bool (decide (0 ≤ m ∧ m < (n : Int)))) ∧ w = w' := by
  by_cases h0 : 0 ≤ m
  · obtain ⟨q, rfl⟩ := Int.eq_ofNat_of_zero_le h0
    have t0 : decide ((q : Int) ≥ 0) = true := by rw [decide_eq_true_eq]; omega
    by_cases h1 : q < n
    · have HE : Hid (decide (0 ≤ (q : Int) ∧ (q : Int) < (n : Int)) = true) := Lib.hid (by rw [decide_eq_true_eq]; omega)
      rw [HE.out]
      have t1 : decide ((q : Int) < (n : Int)) = true := by rw [decide_eq_true_eq]; omega
      have t1b : decide (q < n) = true := by rw [decide_eq_true_eq]; omega
      clear h0 h1
      go_enter Try.func33, Try.ntmps33
      go_wp2_with fail
      go_ret
      exact ⟨rfl, rfl⟩
    · have HE : Hid (decide (0 ≤ (q : Int) ∧ (q : Int) < (n : Int)) = false) := Lib.hid (by rw [decide_eq_false_iff_not]; omega)
      rw [HE.out]
      have t1 : decide ((q : Int) < (n : Int)) = false := by rw [decide_eq_false_iff_not]; omega
      have t1b : decide (q < n) = false := by rw [decide_eq_false_iff_not]; omega
      clear h0 h1
      go_enter Try.func33, Try.ntmps33
      go_wp2_with fail
      go_ret
      exact ⟨rfl, rfl⟩
  · have HE : Hid (decide (0 ≤ m ∧ m < (n : Int)) = false) := Lib.hid (by rw [decide_eq_false_iff_not]; omega)
    rw [HE.out]
    have t0 : decide (m ≥ 0) = false := by rw [decide_eq_false_iff_not]; omega
    clear h0
    go_enter Try.func33, Try.ntmps33
    go_wp2_with fail
    go_ret
    exact ⟨rfl, rfl⟩
set_option maxRecDepth 100000 in
set_option maxHeartbeats 16000000 in
theorem pup_any (A : Option Addr) (n c : Nat) (xs : List DNode) (m : Int) (w : World) (h : SlN w w.heap.size A n c xs) (hn : n ≤ 20) :
    Calls Try.prog 25 #[.slice A n c, .int .i64 m] w (IsRow (upM xs n m) w) := by
  obtain ⟨i0, hi, hz0, hz1, hz2⟩ := info_parts info_int
  have H := Lib.hid h
  have hl := Lib.hid h.1
  have hn1 : (n : Int) ≤ 20 := by omega
  have hn0 : (0 : Int) ≤ (n : Int) := by omega
  clear h
  go_enter Try.func25, Try.ntmps25
  go_wp2_with fail
  go_step3
  go_wp2_with fail
  go_step3
  go_wp2_with fail
  go_loopw [1, 5, 8] (fun nv ov iv wr => ∃ (k : Nat) (y : Int) (A' : Option Addr) (c' : Nat), nv = .int .i64 y ∧ ov = .slice A' k c' ∧ iv = .int .i64 (k : Int) ∧ k ≤ n ∧ Hid (∃ l, wr.ownsRow w.heap.size 3 1 (.slice A' k c') k (rowI l) ∧ upM xs n m = l ++ upM xs (n - k) y ∧ Below w.heap.size w wr)) (fun _ _ iv _ => n - (intOf iv).toNat)
  case atStart => exact ⟨0, m, none, 0, rfl, rfl, rfl, by omega, Lib.hid ⟨[], ⟨rfl, .inl ⟨rfl, rfl⟩⟩, rfl, Below.refl _ _⟩⟩
  case round =>
    obtain ⟨k, y, A', c', rfl, rfl, rfl, hk, HK⟩ := hrel
    obtain ⟨l, hown, hup, hbw⟩ := HK.out
    have HO := Lib.hid hown
    have HU := Lib.hid hup
    have HB := Lib.hid hbw
    have hk0 : (0 : Int) ≤ (k : Int) := by omega
    have hk1 : (k : Int) ≤ 20 := by omega
    clear hown hup hbw HK
    by_cases hlt : k < n
    · have t0 : decide ((k : Int) < (n : Int)) = true := by rw [decide_eq_true_eq]; omega
      have t0b : decide (k < n) = true := by rw [decide_eq_true_eq]; omega
      have cI := Lib.hid (pis_any A n c y wr (by omega))
      by_cases hy : 0 ≤ y ∧ y < (n : Int)
      · have HD : Hid (decide (0 ≤ y ∧ y < (n : Int)) = true) := Lib.hid (decide_eq_true hy)
        rw [HD.out] at cI
        obtain ⟨hy0, hy1⟩ := hy
        obtain ⟨q, rfl⟩ := Int.eq_ofNat_of_zero_le hy0
        obtain ⟨b, off, z, rfl, hbq, hz, hc0, _⟩ := sln_at H.out (k := q) (by omega)
        have HE : Hid (upM xs (n - k) (q : Int) = (q : Int) :: upM xs (n - (k + 1)) z.parent) := Lib.hid (by
          have e : n - k = (n - (k + 1)) + 1 := by omega
          have hll := hl.out
          rw [e, upM, if_pos ⟨by omega, by omega⟩]
          have : xs.getD (q : Int).toNat zN = z := by rw [List.getD_eq_getElem?_getD, show ((q : Int).toNat) = q from rfl, hz]; rfl
          rw [this])
        obtain ⟨zp, hzp⟩ : ∃ v, z.parent = v := ⟨_, rfl⟩
        rw [hzp] at hc0 HE
        have hZ : Hid (w.heap.size ≤ wr.heap.size) := Lib.hid HB.out.size
        have hsrc := Lib.hid (src_int wr (q : Int))
        have HC0 := Lib.hid hc0
        have hq : (q : Int) < (n : Int) := hy1
        clear hz hzp hc0 HD
        go_wp2_with fail
        refine cI.out.mono ?_
        rintro e w2 ⟨rfl, rfl⟩
        go_wp2_with (first
          | (at_builtin; go_must (refine wpList_append_src _ rfl _ _ 38 rfl w.heap.size 3 i0 (.int .i64 0) 1 8 Try.underlying38 hi hz0 hz1 hz2 rfl (by decide) _ _ _ rfl (HO.out.alloc _) (some ⟨wr.heap.size, 0, none⟩) 1 1 [.int .i64 (q : Int)] rfl hsrc.out (one_int _) (by unfold maxLen; omega) (by omega) (by have := hZ.out; simp; omega) ?_)
             intro v' w7 hown' hgrow3 hat3
             obtain ⟨A', c', rfl, X1, X2, _⟩ := app_int HB.out hZ.out HO.out hown' hgrow3
             have yq := (X2.cell (p := ⟨b, off + q * 7, none⟩) hbq).trans HC0.out
             have XR := Lib.hid X1
             have XB := Lib.hid X2
             clear X1 X2 hown' hgrow3 hat3)
          | fail)
        go_roundw
        case rel =>
          refine ⟨k + 1, zp, _, _, rfl, rfl, by go_num, by omega, Lib.hid ⟨l ++ [(q : Int)], ?_, ?_, XB.out⟩⟩
          · have := XR.out
            simpa [rowI] using this
          · rw [HU.out, HE.out]
            simp
        case measure => first | (simp [intOf]; done) | (simp [intOf]; omega)
      · have HD : Hid (decide (0 ≤ y ∧ y < (n : Int)) = false) := Lib.hid (decide_eq_false hy)
        rw [HD.out] at cI
        have HE : Hid (upM xs (n - k) y = []) := Lib.hid (by
          have e : n - k = (n - (k + 1)) + 1 := by omega
          have hll := hl.out
          rw [e, upM, if_neg (by rw [hll]; exact hy)])
        clear hy HD
        go_wp2_with fail
        refine cI.out.mono ?_
        rintro e w2 ⟨rfl, rfl⟩
        go_wp2_with fail
        go_ret
        exact ⟨_, _, _, rfl, by rw [HU.out, HE.out, List.append_nil]; exact HO.out, HB.out⟩
    · obtain rfl : k = n := by omega
      have HE : Hid (upM xs (k - k) y = []) := Lib.hid (by rw [Nat.sub_self]; rfl)
      go_wp2_with fail
      go_ret
      exact ⟨_, _, _, rfl, by rw [HU.out, HE.out, List.append_nil]; exact HO.out, HB.out⟩
/-! ### plain: those above a node -/
theorem upM_more (xs : List DNode) (hno : nodesOk xs) : ∀ (m j i : Nat), m < xs.length → m < j → m < i → upM xs j (m : Int) = upM xs i (m : Int)
  | m, 0, _, _, h, _ => by omega
  | m, _, 0, _, _, h => by omega
  | m, j + 1, i + 1, hm, hj, hi => by
    obtain ⟨z, hz⟩ : ∃ z, xs[m]? = some z := ⟨_, List.getElem?_eq_getElem hm⟩
    have hzk := hno.2.2 m z hz
    obtain ⟨-, -, -, -, -, -, -, -, -, -, -, k0, k1⟩ := hzk
    have hg : xs.getD (m : Int).toNat zN = z := by rw [List.getD_eq_getElem?_getD, show ((m : Int).toNat) = m from rfl, hz]; rfl
    rw [upM, upM, if_pos ⟨by omega, by omega⟩, if_pos ⟨by omega, by omega⟩, hg]
    congr 1
    rcases Nat.eq_zero_or_pos m with e | e
    · rw [(k0 e).1]
      cases j <;> cases i <;> simp [upM]
    · obtain ⟨p0, p1, -, -⟩ := k1 e
      obtain ⟨p, hp⟩ := Int.eq_ofNat_of_zero_le p0
      rw [hp]
      exact upM_more xs hno p j i (by omega) (by omega) (by omega)
  termination_by m => m
theorem upM_last (xs : List DNode) (hno : nodesOk xs) : ∀ (m j : Nat), m < xs.length → m < j → (upM xs j (m : Int)).getLast? = some 0
  | m, 0, _, h => by omega
  | m, j + 1, hm, hj => by
    obtain ⟨z, hz⟩ : ∃ z, xs[m]? = some z := ⟨_, List.getElem?_eq_getElem hm⟩
    have hzk := hno.2.2 m z hz
    obtain ⟨-, -, -, -, -, -, -, -, -, -, -, k0, k1⟩ := hzk
    have hg : xs.getD (m : Int).toNat zN = z := by rw [List.getD_eq_getElem?_getD, show ((m : Int).toNat) = m from rfl, hz]; rfl
    rw [upM, if_pos ⟨by omega, by omega⟩, hg]
    rcases Nat.eq_zero_or_pos m with e | e
    · rw [(k0 e).1]
      subst e
      cases j <;> simp [upM]
    · obtain ⟨p0, p1, -, -⟩ := k1 e
      obtain ⟨p, hp⟩ := Int.eq_ofNat_of_zero_le p0
      rw [hp, List.getLast?_cons, upM_last xs hno p j (by omega) (by omega)]
      rfl
  termination_by m => m
theorem upM_same (xs : List DNode) (hno : nodesOk xs) (m : Nat) (hm : m < xs.length) : upM xs xs.length (m : Int) = upM xs (xs.length + 1) (m : Int) := upM_more xs hno m _ _ hm hm (by omega)
end Go.Proofs.Ytobmjnmcjddhcaa
