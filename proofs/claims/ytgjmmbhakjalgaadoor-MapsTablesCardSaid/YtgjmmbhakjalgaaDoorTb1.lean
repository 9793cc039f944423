/-
  Tables of sets: a table moved (maps.Move).
-/
import Derived.Test.YtgjmmbhakjalgaaDoorTb0
namespace Go.Proofs.YtgjmmbhakjalgaaDoor
open Go.RowKit
set_option linter.unusedSimpArgs false
set_option linter.unusedVariables false
theorem own_nilW (w : World) (base : Nat) : RowW w base none 0 0 [] := ⟨rfl, .inl ⟨rfl, rfl⟩⟩
theorem RowW.on {w w' : World} {b : Nat} {A : Option Addr} {k c : Nat} {xs : List W4} (h : RowW w b A k c xs) (hb : Below w.heap.size w w') : RowW w' b A k c xs := own_keep h hb
set_option maxRecDepth 100000 in
set_option maxHeartbeats 2000000 in
theorem mMove_any (A : Option Addr) (n c : Nat) (xs : List W4) (b : Int) (w : World) (h : SlW w w.heap.size A n c xs) (hok : ∀ x ∈ xs, x.Ok) (hn : n ≤ 100) (hT : Tab w) (hw0 : 0 < w.heap.size) :
    Calls Tryd.prog 5 #[.slice A n c, .int .i64 b] w fun e w' => ∃ A' c', e = .returned (.slice A' n c') ∧ RowW w' w.heap.size A' n c' (xs.map fun x => movedM x b) ∧ Below w.heap.size w w' := by
  obtain ⟨i0, hi, hz0, hz1, hz2⟩ := info_parts info_set
  have H := Lib.hid h
  have HT := Lib.hid hT
  have HOK := Lib.hid hok
  have HLN : Hid (xs.length = n) := Lib.hid h.1
  have HW0 := Lib.hid hw0
  clear h hT hok hw0
  go_enter Tryd.func5, Tryd.ntmps5
  go_wp2_with fail
  go_loopw [5, 10] (fun o i wr => ∃ (k : Nat) (A1 : Option Addr) (c1 : Nat), o = .slice A1 k c1 ∧ i = .int .i64 k ∧ k ≤ n ∧ Hid (RowW wr w.heap.size A1 k c1 ((xs.take k).map fun x => movedM x b)) ∧ Hid (Below w.heap.size w wr)) (fun _ i _ => n - (intOf i).toNat)
  case atStart => exact ⟨0, none, 0, rfl, rfl, Nat.zero_le _, Lib.hid (own_nilW _ _), Lib.hid (Below.refl _ _)⟩
  case round =>
    obtain ⟨k, A1, c1, rfl, rfl, hk, HR, HB⟩ := hrel
    by_cases hlt : k < n
    · obtain ⟨r, off, x, rfl, hr, hx, hc⟩ := H.out.get hlt
      obtain ⟨q0, q1, q2, q3⟩ := hc wr HB.out
      have hk0 : (0 : Int) ≤ (k : Int) := by omega
      have hkn : (k : Int) < (n : Int) := by omega
      have hxo : x.Ok := HOK.out x (List.mem_of_getElem? hx)
      obtain ⟨w1, hw1⟩ : ∃ w1, wr.alloc (.cells #[.int .u64 (x.a0 : Int), .int .u64 (x.a1 : Int), .int .u64 (x.a2 : Int), .int .u64 (x.a3 : Int)] 27) = w1 := ⟨_, rfl⟩
      have hb1 : Below wr.heap.size wr w1 := by rw [← hw1]; exact bl_one _
      have hcl : Cells w1 wr.heap.size [.int .u64 (x.a0 : Int), .int .u64 (x.a1 : Int), .int .u64 (x.a2 : Int), .int .u64 (x.a3 : Int)] := by rw [← hw1]; exact Cells.new wr [.int .u64 (x.a0 : Int), .int .u64 (x.a1 : Int), .int .u64 (x.a2 : Int), .int .u64 (x.a3 : Int)] _
      have z0 : w1.cell? ⟨wr.heap.size, 0, none⟩ = some (.int .u64 (x.a0 : Int)) := hcl.at_ 0 _ rfl
      have z1 : w1.cell? ⟨wr.heap.size, 1, none⟩ = some (.int .u64 (x.a1 : Int)) := hcl.at_ 1 _ rfl
      have z2 : w1.cell? ⟨wr.heap.size, 2, none⟩ = some (.int .u64 (x.a2 : Int)) := hcl.at_ 2 _ rfl
      have z3 : w1.cell? ⟨wr.heap.size, 3, none⟩ = some (.int .u64 (x.a3 : Int)) := hcl.at_ 3 _ rfl
      have HB1 : Hid (Below w.heap.size w w1) := Lib.hid (HB.out.trans (hb1.mono HB.out.size))
      have HR1 : Hid (RowW w1 w.heap.size A1 k c1 ((xs.take k).map fun x => movedM x b)) := Lib.hid (HR.out.on hb1)
      have cM : Hid (Calls Tryd.prog 14 #[.agg #[.int .u64 (x.a0 : Int), .int .u64 (x.a1 : Int), .int .u64 (x.a2 : Int), .int .u64 (x.a3 : Int)], .int .i64 b] w1 (IsW (movedM x b) w1)) := Lib.hid (move_any x hxo b w1 (HT.out.below HB1.out HW0.out) (by have := HB1.out.size; have := HW0.out; omega))
      have HX : Hid (((xs.take k).map fun x => movedM x b) ++ [movedM x b] = (xs.take (k + 1)).map fun x => movedM x b) := Lib.hid (by rw [← take_snoc' xs k x hx, List.map_append]; rfl)
      obtain ⟨s, hs⟩ : ∃ s, movedM x b = s := ⟨_, rfl⟩
      rw [hs] at cM HX
      generalize ((xs.take k).map fun x => movedM x b) = out at *
      generalize x.a0 = x0 at *
      generalize x.a1 = x1 at *
      generalize x.a2 = x2 at *
      generalize x.a3 = x3 at *
      clear hs hxo hx hc hcl hr hb1 HB HR
      go_wp2_with fail
      clear hw1 q0 q1 q2 q3
      refine cM.out.mono ?_
      rintro e w2 ⟨rfl, hb2⟩
      have HB2 : Hid (Below w.heap.size w w2) := Lib.hid (HB1.out.trans (hb2.mono HB1.out.size))
      have HR2 : Hid (RowW w2 w.heap.size A1 k c1 out) := Lib.hid (HR1.out.on hb2)
      have hsrc := Lib.hid (set_src w2 s)
      have hone := Lib.hid (set_one s)
      have hzb : w.heap.size ≤ (w2.alloc (.cells #[.int .u64 (s.a0 : Int), .int .u64 (s.a1 : Int), .int .u64 (s.a2 : Int), .int .u64 (s.a3 : Int)] 27)).heap.size := by have := HB2.out.size; simp; omega
      have hown := Lib.hid (HR2.out.alloc (.cells #[.int .u64 (s.a0 : Int), .int .u64 (s.a1 : Int), .int .u64 (s.a2 : Int), .int .u64 (s.a3 : Int)] 27))
      clear hb2 z0 z1 z2 z3 cM HR1 HB1
      go_wp2_with (first
        | (at_builtin; go_must (refine wpList_append_src _ rfl _ _ 22 rfl w.heap.size 27 i0 (.agg #[.int .u64 0, .int .u64 0, .int .u64 0, .int .u64 0]) 4 32 Tryd.underlying22 hi hz0 hz1 hz2 rfl (by decide) _ _ _ rfl hown.out (some ⟨w2.heap.size, 0, none⟩) 1 1 (cellsW s) rfl hsrc.out hone.out (by unfold maxLen; omega) (by omega) hzb ?_)
           intro v' w3 hown' hgrow3 hat3
           have X : Hid (∃ A' c', v' = .slice A' (k + 1) c' ∧ RowW w3 w.heap.size A' (k + 1) c' (out ++ [s]) ∧ Below w.heap.size w w3) := Lib.hid (by
             obtain ⟨A', c', rfl, _⟩ := own_form hown'
             refine ⟨A', c', rfl, by show World.ownsRow _ _ _ _ _ _ _; rw [List.flatMap_append]; simpa using hown', ?_⟩
             exact Below.grown (HB2.out.alloc HB2.out.size _) hgrow3 hzb (fun j hj => (HR2.out.lt _ hj).1))
           obtain ⟨A', c', rfl, X1, X2⟩ := X.out
           have XR := Lib.hid X1
           have XB := Lib.hid X2
           clear X X1 X2 hown' hgrow3 hat3))
      go_roundw
      case rel => exact ⟨k + 1, A', c', rfl, by go_num, by omega, Lib.hid (by rw [← HX.out]; exact XR.out), XB⟩
      case measure => simp [intOf]; omega
    · obtain rfl : k = n := by omega
      go_wp2_with fail
      go_ret
      refine ⟨A1, c1, rfl, ?_, HB.out⟩
      have := HR.out
      rw [List.take_of_length_le (by have := HLN.out; omega)] at this
      exact this
end Go.Proofs.YtgjmmbhakjalgaaDoor
