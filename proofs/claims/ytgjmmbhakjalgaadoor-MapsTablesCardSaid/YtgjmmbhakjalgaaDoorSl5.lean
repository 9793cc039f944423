/-
  Sets of slots: the program's set of a row, and of a range.
-/
import Derived.Test.YtgjmmbhakjalgaaDoorSl4
namespace Go.Proofs.YtgjmmbhakjalgaaDoor
open Go.RowKit
set_option linter.unusedSimpArgs false
set_option linter.unusedVariables false
/-- Two variables of the call's own: the result (nothing) and the set so far. -/
structure TwoW (w W : World) (s : W4) : Prop where
  r0 : W.cell? ⟨w.heap.size, 0, none⟩ = some (.int .u64 0)
  r1 : W.cell? ⟨w.heap.size, 1, none⟩ = some (.int .u64 0)
  r2 : W.cell? ⟨w.heap.size, 2, none⟩ = some (.int .u64 0)
  r3 : W.cell? ⟨w.heap.size, 3, none⟩ = some (.int .u64 0)
  fr : ∀ j, W.frozen? ⟨w.heap.size, j, none⟩ = false
  sc : ∀ q, q < 4 → W.cell? ⟨w.heap.size + 1, q, none⟩ = some (.int .u64 (s.get q : Int))
  fs : ∀ j, W.frozen? ⟨w.heap.size + 1, j, none⟩ = false
  bw : Below w.heap.size w W
  sz : w.heap.size + 1 < W.heap.size
  ok : s.Ok
theorem TwoW.s0 {w W : World} {s : W4} (h : TwoW w W s) : W.cell? ⟨w.heap.size + 1, 0, none⟩ = some (.int .u64 (s.a0 : Int)) := h.sc 0 (by omega)
theorem TwoW.s1 {w W : World} {s : W4} (h : TwoW w W s) : W.cell? ⟨w.heap.size + 1, 1, none⟩ = some (.int .u64 (s.a1 : Int)) := h.sc 1 (by omega)
theorem TwoW.s2 {w W : World} {s : W4} (h : TwoW w W s) : W.cell? ⟨w.heap.size + 1, 2, none⟩ = some (.int .u64 (s.a2 : Int)) := h.sc 2 (by omega)
theorem TwoW.s3 {w W : World} {s : W4} (h : TwoW w W s) : W.cell? ⟨w.heap.size + 1, 3, none⟩ = some (.int .u64 (s.a3 : Int)) := h.sc 3 (by omega)
theorem TwoW.start (w : World) : TwoW w ((w.alloc (.cells #[.int .u64 0, .int .u64 0, .int .u64 0, .int .u64 0] 27)).alloc (.cells #[.int .u64 0, .int .u64 0, .int .u64 0, .int .u64 0] 27)) zW := by
  constructor
  case bw => exact ((Below.refl _ _).alloc (Nat.le_refl _) _).alloc (by simp) _
  case sc =>
    intro q hq
    rcases (show q = 0 ∨ q = 1 ∨ q = 2 ∨ q = 3 by omega) with rfl | rfl | rfl | rfl <;> simp [go_sem, zW, W4.get]
  case ok => exact zW_ok
  all_goals simp [go_sem]
theorem TwoW.call {w W W' : World} {s : W4} (h : TwoW w W s) (hb : Below W.heap.size W W') : TwoW w W' s := by
  have hl0 : w.heap.size < W.heap.size := by have := h.sz; omega
  have hl1 := h.sz
  constructor
  case bw => exact h.bw.trans (hb.mono h.bw.size)
  case sz => exact Nat.lt_of_lt_of_le h.sz hb.size
  case fr => intro j; rw [hb.frozen (p := ⟨w.heap.size, j, none⟩) hl0]; exact h.fr j
  case fs => intro j; rw [hb.frozen (p := ⟨w.heap.size + 1, j, none⟩) hl1]; exact h.fs j
  case r0 => exact (hb.cell (p := ⟨w.heap.size, 0, none⟩) hl0).trans h.r0
  case r1 => exact (hb.cell (p := ⟨w.heap.size, 1, none⟩) hl0).trans h.r1
  case r2 => exact (hb.cell (p := ⟨w.heap.size, 2, none⟩) hl0).trans h.r2
  case r3 => exact (hb.cell (p := ⟨w.heap.size, 3, none⟩) hl0).trans h.r3
  case sc => intro q hq; exact (hb.cell (p := ⟨w.heap.size + 1, q, none⟩) hl1).trans (h.sc q hq)
  case ok => exact h.ok
theorem TwoW.put {w W : World} {s : W4} (h : TwoW w W s) (t : W4) (ht : t.Ok) : TwoW w ((((W.setCell ⟨w.heap.size + 1, 0, none⟩ (.int .u64 (t.a0 : Int))).setCell ⟨w.heap.size + 1, 1, none⟩ (.int .u64 (t.a1 : Int))).setCell ⟨w.heap.size + 1, 2, none⟩ (.int .u64 (t.a2 : Int))).setCell ⟨w.heap.size + 1, 3, none⟩ (.int .u64 (t.a3 : Int))) t := by
  have n1 : ¬ w.heap.size + 1 = w.heap.size := by omega
  have s0 := h.s0
  have s1 := h.s1
  have s2 := h.s2
  have s3 := h.s3
  constructor
  case bw => exact below3 h.bw (by omega) _ _ _ _
  case sz => have := h.sz; simpa using this
  case fr => intro j; simpa [go_sem] using h.fr j
  case fs => intro j; simpa [go_sem] using h.fs j
  case sc =>
    intro q hq
    rcases (show q = 0 ∨ q = 1 ∨ q = 2 ∨ q = 3 by omega) with rfl | rfl | rfl | rfl <;> simp [go_sem, s0, s1, s2, s3, W4.get]
  case ok => exact ht
  all_goals simp [go_sem, h.r0, h.r1, h.r2, h.r3, n1]
theorem TwoW.putq {w W : World} {s : W4} (h : TwoW w W s) (q : Nat) (hq : q < 4) (v : Nat) (t : W4) (ht : s.put q v = t) (hv : t.Ok) : TwoW w (W.setCell ⟨w.heap.size + 1, q, none⟩ (.int .u64 (v : Int))) t := by
  have n1 : ¬ w.heap.size + 1 = w.heap.size := by omega
  constructor
  case bw => exact h.bw.setCell (p := ⟨w.heap.size + 1, q, none⟩) (by show w.heap.size ≤ w.heap.size + 1; omega) _
  case sz => have := h.sz; simpa using this
  case fr => intro j; simpa [go_sem] using h.fr j
  case fs => intro j; simpa [go_sem] using h.fs j
  case sc =>
    intro p hp
    rw [← ht, W4.get_put hq p hp]
    by_cases e : p = q
    · subst e
      rw [if_pos rfl]
      have := h.sc p hp
      simp [go_sem, this]
    · rw [if_neg e, World.cell?_setCell_other _ _ _ _ (by simp; try omega)]
      exact h.sc p hp
  case ok => exact hv
  all_goals simp [go_sem, h.r0, h.r1, h.r2, h.r3, n1]
def foldW (s : W4) (xs : List Int) : W4 := xs.foldl withM s
theorem foldW_snoc (xs : List Int) (k : Nat) (x : Int) (h : xs[k]? = some x) : foldW zW (xs.take (k + 1)) = withM (foldW zW (xs.take k)) x := by
  rw [← take_snoc' xs k x h]
  unfold foldW
  rw [List.foldl_append]
  rfl
theorem int_at' {w : World} {B : Nat} {A : Option Addr} {n c : Nat} {xs : List Int} (h : SlR 1 8 (RInt .i64) w B A n c xs) {k : Nat} (hk : k < n) : ∃ b off v, A = some ⟨b, off, none⟩ ∧ b < B ∧ xs[k]? = some v ∧ w.cell? ⟨b, off + k, none⟩ = some (.int .i64 v) := by
  obtain ⟨b, off, x, cs, hA, hb, hx, _, hc, hr⟩ := h.at_ hk
  obtain ⟨rfl, _⟩ := hr
  exact ⟨b, off, x, hA, hb, hx, by simpa using hc 0 _ rfl⟩
set_option maxRecDepth 100000 in
set_option maxHeartbeats 2000000 in
theorem of_any (A : Option Addr) (n c B : Nat) (xs : List Int) (w : World) (h : SlR 1 8 (RInt .i64) w B A n c xs) (hB : B ≤ w.heap.size) (hn : n ≤ 1000) :
    Calls Tryd.prog 13 #[.slice A n c] w (IsW (foldW zW xs) w) := by
  have H := Lib.hid h
  have HL : Hid (xs.length = n) := h.1
  have HB := Lib.hid hB
  have HS := Lib.hid (TwoW.start w)
  clear h hB
  go_enter Tryd.func13, Tryd.ntmps13
  go_wp2_with fail
  go_loopw [8] (fun i wr => ∃ k : Nat, i = .int .i64 k ∧ k ≤ n ∧ Hid (TwoW w wr (foldW zW (xs.take k)))) (fun i _ => n - (intOf i).toNat)
  case atStart => exact ⟨0, rfl, Nat.zero_le _, HS⟩
  case round =>
    obtain ⟨k, rfl, hk, HT⟩ := hrel
    have s0 := HT.out.s0
    have s1 := HT.out.s1
    have s2 := HT.out.s2
    have s3 := HT.out.s3
    have fs := HT.out.fs
    by_cases hlt : k < n
    · obtain ⟨b, off, t, rfl, hb, hx, q⟩ := int_at' H.out hlt
      have q0 : wr.cell? ⟨b, off + k, none⟩ = some (.int .i64 t) := (HT.out.bw.cell (by have := HB.out; show b < _; omega)).trans q
      have HX : Hid (foldW zW (xs.take (k + 1)) = withM (foldW zW (xs.take k)) t) := Lib.hid (foldW_snoc xs k t hx)
      have hok := HT.out.ok
      have cw := Lib.hid (fun w => with_any (foldW zW (xs.take k)) hok t w)
      have HOK := Lib.hid (withM_ok hok t)
      generalize foldW zW (xs.take k) = s at *
      generalize withM s t = s' at *
      clear q hx hb hok
      go_wp2_with fail
      refine (cw.out _).mono ?_
      rintro e w1 ⟨rfl, hb1⟩
      have HT1 := Lib.hid (HT.out.call hb1)
      have s0 := HT1.out.s0
      have s1 := HT1.out.s1
      have s2 := HT1.out.s2
      have s3 := HT1.out.s3
      have fs := HT1.out.fs
      have HT2 := Lib.hid (HT1.out.put s' HOK.out)
      clear hb1 cw
      go_wp2_with fail
      go_roundw
      case rel => exact ⟨k + 1, by go_num, by omega, Lib.hid (by rw [HX.out]; exact HT2.out)⟩
      case measure => simp [intOf]; omega
    · have hkn : k = n := by omega
      subst hkn
      have r0 := HT.out.r0
      have r1 := HT.out.r1
      have r2 := HT.out.r2
      have r3 := HT.out.r3
      have fr := HT.out.fr
      have HT3 : Hid (TwoW w wr (foldW zW xs)) := Lib.hid (by
        have := HT.out
        rw [List.take_of_length_le (by rw [HL.out]; exact Nat.le_refl _)] at this
        exact this)
      have e : foldW zW (xs.take k) = foldW zW xs := by rw [List.take_of_length_le (by rw [HL.out]; exact Nat.le_refl _)]
      rw [e] at s0 s1 s2 s3
      clear HT e
      generalize foldW zW xs = s at *
      have hne : ¬ w.heap.size = w.heap.size + 1 := by omega
      have hne' : ¬ w.heap.size + 1 = w.heap.size := by omega
      go_wp2_with fail
      refine bodyPost_ret (v := aggW s) (by simp [results, Tryd.results13, go_sem, r0, r1, r2, r3, fr, s0, s1, s2, s3, hne, hne']) rfl ⟨rfl, ?_⟩
      exact below3 HT3.out.bw (Nat.le_refl _) _ _ _ _
end Go.Proofs.YtgjmmbhakjalgaaDoor
