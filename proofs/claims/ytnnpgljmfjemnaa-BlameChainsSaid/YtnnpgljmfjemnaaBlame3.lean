/-
  Panics: whether two are the same, by the document and by the program; a new one.
-/
import Derived.Test.YtnnpgljmfjemnaaBlame2
import Derived.OrdersHeld
import Derived.Deep.RegionHeld
namespace Go.Proofs.Ytnnpgljmfjemnaa
open Go.RowKit
set_option linter.unusedSimpArgs false
set_option linter.unusedVariables false

set_option maxRecDepth 100000 in
set_option maxHeartbeats 1000000 in
theorem entries_any (B1 B2 : Nat) (A1 A2 : Option Addr) (n1 n2 c1 c2 : Nat) (l m : List DEntry) (w : World) (h1 : SlR 2 16 (RC cellsE) w B1 A1 n1 c1 l) (h2 : SlR 2 16 (RC cellsE) w B2 A2 n2 c2 m) :
    Calls Try.prog 72 #[.slice A1 n1 c1, .slice A2 n2 c2] w fun e w' => e = .returned (.bool (eqEs l m)) ∧ ∃ q, w' = w.drewN q := by
  have hl1 := h1.1
  have hl2 := h2.1
  have hm : n1 ≤ 9223372036854775807 := by have := h1.2.1; have := h1.2.2.1; unfold maxLen at this; omega
  by_cases hn : n1 = n2
  · subst hn
    have H1 := Lib.hid h1
    have H2 := Lib.hid h2
    have HL1 := Lib.hid hl1
    have HL2 := Lib.hid hl2
    clear h1 h2 hl1 hl2
    have hne : ((n1 : Int) != (n1 : Int)) = false := by simp
    go_enter Try.func72, Try.ntmps72
    go_wp2
    go_loopw [5] (fun i wr => ∃ k q : Nat, k ≤ n1 ∧ i = .int .i64 k ∧ wr = w.drewN q ∧ SameTo l m k) (fun i _ => n1 - (intOf i).toNat)
    case atStart => exact ⟨0, 0, Nat.zero_le _, rfl, rfl, fun j hj => absurd hj (by omega)⟩
    case round =>
      obtain ⟨k, q, hk, rfl, rfl, hs⟩ := hrel
      have HS := Lib.hid hs
      clear hs
      by_cases hlt : k < n1
      · obtain ⟨b1, o1, x, rfl, _, hx, hc1, hc2⟩ := SlR.cell2 H1.out hlt
        obtain ⟨b2, o2, y, rfl, _, hy, hd1, hd2⟩ := SlR.cell2 H2.out hlt
        have HX := Lib.hid hx
        have HY := Lib.hid hy
        clear hx hy
        obtain ⟨xf, hxf⟩ : ∃ z, x.func = z := ⟨_, rfl⟩
        obtain ⟨xl, hxl⟩ : ∃ z, x.line = z := ⟨_, rfl⟩
        obtain ⟨yf, hyf⟩ : ∃ z, y.func = z := ⟨_, rfl⟩
        obtain ⟨yl, hyl⟩ : ∃ z, y.line = z := ⟨_, rfl⟩
        rw [hxf] at hc1
        rw [hxl] at hc2
        rw [hyf] at hd1
        rw [hyl] at hd2
        have HK : Hid (keyE x = (xf, xl) ∧ keyE y = (yf, yl)) := by
          show keyE x = _ ∧ keyE y = _
          unfold keyE
          rw [hxf, hxl, hyf, hyl]
          exact ⟨rfl, rfl⟩
        clear hxf hxl hyf hyl
        by_cases hf : (xf == yf) = true
        · by_cases hl : (xl == yl) = true
          · have HE : Hid (keyE x = keyE y) := by
              show keyE x = keyE y
              rw [HK.out.1, HK.out.2, beq_iff_eq.1 hf, beq_iff_eq.1 hl]
            go_wp2
            go_quiet (fail)
            go_wp2
            go_roundw
            case rel => exact ⟨k + 1, _, by omega, by go_num, rfl, HS.out.succ HX.out HY.out HE.out⟩
            case measure => simp [intOf]; omega
          · have hl' : (xl == yl) = false := by simpa using hl
            have HE : Hid (eqEs l m = false) := by
              refine eqEs_at HX.out HY.out ?_
              rw [HK.out.1, HK.out.2]
              intro h
              simp only [Prod.mk.injEq] at h
              rw [h.2] at hl'
              simp at hl'
            clear hl
            go_wp2
            go_quiet (fail)
            go_wp2
            go_ret
            exact ⟨by rw [HE.out]; rfl, q + nq, World.drewN_drewN _ _ _⟩
        · have hf' : (xf == yf) = false := by simpa using hf
          have HE : Hid (eqEs l m = false) := by
            refine eqEs_at HX.out HY.out ?_
            rw [HK.out.1, HK.out.2]
            intro h
            simp only [Prod.mk.injEq] at h
            rw [h.1] at hf'
            simp at hf'
          clear hf
          go_wp2
          go_quiet (fail)
          go_wp2
          go_ret
          exact ⟨by rw [HE.out]; rfl, q + nq, World.drewN_drewN _ _ _⟩
      · have HE : Hid (eqEs l m = true) := by
          obtain rfl : k = n1 := by omega
          refine SameTo.all ?_ (by rw [HL1.out, HL2.out])
          rw [HL1.out]
          exact HS.out
        go_wp2
        go_ret
        exact ⟨by rw [HE.out]; rfl, _, rfl⟩
  · have HE : Hid (eqEs l m = false) := eqEs_len (by omega)
    have hne : ((n1 : Int) != (n2 : Int)) = true := by rw [bne_iff_ne]; omega
    clear h1 h2 hl1 hl2 hn
    go_enter Try.func72, Try.ntmps72
    go_wp2
    go_ret
    exact ⟨by rw [HE.out]; rfl, 0, rfl⟩

abbrev blameV (k n : Int) (r : Bool) (A : Option Addr) (m c : Nat) : Value := .agg #[.int .i64 k, .int .i64 n, .bool r, .slice A m c]
set_option maxHeartbeats 400000 in
theorem of_any (k n : Int) (r : Bool) (A : Option Addr) (m c : Nat) (w : World) :
    Calls Try.prog 70 #[blameV k n r A m c] w fun e w' => e = .returned (.agg #[.int .i64 k, .int .i64 n, .bool r]) ∧ Below w.heap.size w w' := by
  go_enter Try.func70, Try.ntmps70
  go_wp2
  exact bodyPost_ret (v := .agg #[.int .i64 k, .int .i64 n, .bool r]) (by simp [results, Try.results70, go_sem]) rfl ⟨rfl, by repeat (first | exact Below.refl _ _ | (refine Below.setCell ?_ (by simp) _) | (refine Below.alloc ?_ (by simp) _))⟩
theorem new_cells {w w1 : World} {cs : Array Value} {t : TypeId} (hb : Below (w.alloc (.cells cs t)).heap.size (w.alloc (.cells cs t)) w1) (i : Nat) (v : Value) (hv : cs[i]? = some v) : w1.cell? ⟨w.heap.size, i, none⟩ = some v ∧ w1.frozen? ⟨w.heap.size, i, none⟩ = false := by
  refine ⟨?_, ?_⟩
  · rw [hb.cell (by simp), cell_of_row _ w.heap.size i cs t (0, 0) (heap_alloc_new w _)]
    exact hv
  · rw [hb.frozen (by simp)]
    simp
set_option maxHeartbeats 400000 in
theorem new_any (k n : Int) (B : Nat) (A : Option Addr) (m c : Nat) (es : List DEntry) (w : World) (h : SlE w B A m c es) (hB : B ≤ w.heap.size) :
    Calls Try.prog 27 #[.int .i64 k, .int .i64 n, .slice A m c] w fun e w' => ∃ A' m' c', e = .returned (blameV k n false A' m' c') ∧ SlE w' w'.heap.size A' m' c' es ∧ Below w.heap.size w w' := by
  have c1 : ∀ W : World, Below B w W → Hid (Calls Try.prog 69 #[.slice A m c] W (IsEntries es W)) := fun W hW => clone_any B A m c es W (h.keep hW)
  clear h
  go_enter Try.func27, Try.ntmps27
  go_wp2_with fail
  refine Calls.mono (c1 _ ((Below.refl _ _).alloc hB _)).out ?_
  rintro e w1 ⟨A', m', c', rfl, hs, hb, hat⟩
  obtain ⟨q0, f0⟩ := new_cells hb 0 (.int .i64 0) rfl
  obtain ⟨q1, f1⟩ := new_cells hb 1 (.int .i64 0) rfl
  obtain ⟨q2, f2⟩ := new_cells hb 2 (.bool false) rfl
  obtain ⟨q3, f3⟩ := new_cells hb 3 (.slice none 0 0) rfl
  have hb' : Below w.heap.size w w1 := ((Below.refl _ _).alloc (Nat.le_refl _) _).trans (hb.mono (by simp))
  have hlt : w.heap.size < w1.heap.size := by have := hb.size; simp at this; omega
  clear hb
  go_wp2_with fail
  go_outline
  refine bodyPost_ret (v := blameV k n false A' m' c') (by simp [results, Try.results27, go_sem, q0, q1, q2, q3]) rfl ⟨A', m', c', rfl, ?_, ?_⟩
  · refine hs.keepAt (fun b => w.heap.size + 1 ≤ b) (fun ad had => by have := hat ad had; simpa using this) (fun q hq _ => ?_) (by simp)
    have hne : q.block ≠ w.heap.size := by omega
    repeat rw [World.cell?_setCell_far _ _ _ _ (Ne.symm hne)]
  · repeat (first | exact hb' | (refine Below.setCell ?_ (by simp) _))
end Go.Proofs.Ytnnpgljmfjemnaa
