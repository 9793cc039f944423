/-
  Tables of sets: whether a table may be, and the set of an instruction; the program's and the document's.
-/
import Derived.Test.YtgjmmbhakjalgaaDoorTb1
import Derived.OrdersHeld
namespace Go.Proofs.YtgjmmbhakjalgaaDoor
open Go.RowKit
set_option linter.unusedSimpArgs false
set_option linter.unusedVariables false
def rightM (xs : List W4) (many : Int) : Bool := xs.all fun x => insW x (rangeM 0 many)
theorem rightM_false {xs : List W4} {many : Int} {k : Nat} {x : W4} (hx : xs[k]? = some x) (h : insW x (rangeM 0 many) = false) : rightM xs many = false := by
  unfold rightM
  rw [List.all_eq_false]
  exact ⟨x, List.mem_of_getElem? hx, by rw [h]; simp⟩
theorem rightM_take {xs : List W4} {many : Int} {k : Nat} {x : W4} (hx : xs[k]? = some x) (h0 : rightM (xs.take k) many = true) (h : insW x (rangeM 0 many) = true) : rightM (xs.take (k + 1)) many = true := by
  unfold rightM at *
  rw [← take_snoc' xs k x hx, List.all_append, h0]
  simp [h]

set_option maxRecDepth 100000 in
set_option maxHeartbeats 2000000 in
theorem mRight_any (A : Option Addr) (n c : Nat) (xs : List W4) (many : Int) (w : World) (h : SlW w w.heap.size A n c xs) (hn : n ≤ 100) :
    Calls Tryd.prog 7 #[.slice A n c, .int .i64 many] w fun e w' => e = .returned (.bool (rightM xs many)) ∧ Below w.heap.size w w' := by
  have H := Lib.hid h
  have HLN : Hid (xs.length = n) := Lib.hid h.1
  clear h
  go_enter Tryd.func7, Tryd.ntmps7
  go_wp2_with fail
  go_loopw [9] (fun i wr => ∃ (k : Nat), i = .int .i64 k ∧ k ≤ n ∧ Hid (rightM (xs.take k) many = true) ∧ Hid (Below w.heap.size w wr)) (fun i _ => n - (intOf i).toNat)
  case atStart => exact ⟨0, rfl, Nat.zero_le _, Lib.hid rfl, Lib.hid (Below.refl _ _)⟩
  case round =>
    obtain ⟨k, rfl, hk, HR, HB⟩ := hrel
    by_cases hlt : k < n
    · obtain ⟨r, off, x, rfl, hr, hx, hc⟩ := H.out.get hlt
      have hk0 : (0 : Int) ≤ (k : Int) := by omega
      have hkn : (k : Int) < (n : Int) := by omega
      have HX := Lib.hid hx
      obtain ⟨t, ht⟩ : ∃ t, insW x (rangeM 0 many) = t := ⟨_, rfl⟩
      have HTR := Lib.hid ht

      obtain ⟨q0, q1, q2, q3⟩ := hc wr HB.out
      obtain ⟨w1, hw1⟩ : ∃ w1, wr.alloc (.cells #[.int .u64 (x.a0 : Int), .int .u64 (x.a1 : Int), .int .u64 (x.a2 : Int), .int .u64 (x.a3 : Int)] 27) = w1 := ⟨_, rfl⟩
      have hb1 : Below wr.heap.size wr w1 := by rw [← hw1]; exact bl_one _
      have hcl : Cells w1 wr.heap.size [.int .u64 (x.a0 : Int), .int .u64 (x.a1 : Int), .int .u64 (x.a2 : Int), .int .u64 (x.a3 : Int)] := by rw [← hw1]; exact Cells.new wr [.int .u64 (x.a0 : Int), .int .u64 (x.a1 : Int), .int .u64 (x.a2 : Int), .int .u64 (x.a3 : Int)] _
      have z0 : w1.cell? ⟨wr.heap.size, 0, none⟩ = some (.int .u64 (x.a0 : Int)) := hcl.at_ 0 _ rfl
      have z1 : w1.cell? ⟨wr.heap.size, 1, none⟩ = some (.int .u64 (x.a1 : Int)) := hcl.at_ 1 _ rfl
      have z2 : w1.cell? ⟨wr.heap.size, 2, none⟩ = some (.int .u64 (x.a2 : Int)) := hcl.at_ 2 _ rfl
      have z3 : w1.cell? ⟨wr.heap.size, 3, none⟩ = some (.int .u64 (x.a3 : Int)) := hcl.at_ 3 _ rfl
      have HB1 : Hid (Below w.heap.size w w1) := Lib.hid (HB.out.trans (hb1.mono HB.out.size))
      have cM : Hid (Calls Tryd.prog 17 #[.agg #[.int .u64 (x.a0 : Int), .int .u64 (x.a1 : Int), .int .u64 (x.a2 : Int), .int .u64 (x.a3 : Int)], .int .i64 many] w1 fun e w' => e = .returned (.bool t) ∧ Below w1.heap.size w1 w') := Lib.hid (by rw [← ht]; exact below_any x many w1)
      generalize x.a0 = x0 at *
      generalize x.a1 = x1 at *
      generalize x.a2 = x2 at *
      generalize x.a3 = x3 at *
      clear hx hc hcl hr hb1 HB ht
      go_wp2_with fail
      clear hw1 q0 q1 q2 q3
      refine cM.out.mono ?_
      rintro e w2 ⟨rfl, hb2⟩
      have HB2 : Hid (Below w.heap.size w w2) := Lib.hid (HB1.out.trans (hb2.mono HB1.out.size))
      clear hb2 z0 z1 z2 z3 cM HB1

      cases t
      · go_wp2_with fail
        go_ret
        exact ⟨by rw [rightM_false HX.out HTR.out]; rfl, HB2.out⟩
      · go_wp2_with fail
        go_roundw
        case rel => exact ⟨k + 1, by go_num, by omega, Lib.hid (rightM_take HX.out HR.out HTR.out), HB2⟩
        case measure => simp [intOf]; omega
    · obtain rfl : k = n := by omega
      have h2 : (k : Int) ≤ 2000 := by omega
      have HF : Hid (rightM xs many = true) := Lib.hid (by have := HR.out; rw [List.take_of_length_le (by have := HLN.out; omega)] at this; exact this)
      go_wp2_with fail
      go_ret
      exact ⟨by rw [HF.out]; rfl, HB.out⟩

set_option maxRecDepth 100000 in
set_option maxHeartbeats 2000000 in
theorem rRight_any (A : Option Addr) (n c : Nat) (xs : List W4) (many : Int) (w : World) (h : SlW w w.heap.size A n c xs) (hn : n ≤ 100) :
    Calls Tryd.prog 8 #[.slice A n c, .int .i64 many] w fun e w' => e = .returned (.bool (rightM xs many)) ∧ Below w.heap.size w w' := by
  have H := Lib.hid h
  have HLN : Hid (xs.length = n) := Lib.hid h.1
  clear h
  go_enter Tryd.func8, Tryd.ntmps8
  go_wp2_with fail
  go_loopw [5] (fun i wr => ∃ (k : Nat), i = .int .i64 k ∧ k ≤ n ∧ Hid (rightM (xs.take k) many = true) ∧ Hid (Below w.heap.size w wr)) (fun i _ => n - (intOf i).toNat)
  case atStart => exact ⟨0, rfl, Nat.zero_le _, Lib.hid rfl, Lib.hid (Below.refl _ _)⟩
  case round =>
    obtain ⟨k, rfl, hk, HR, HB⟩ := hrel
    by_cases hlt : k < n
    · obtain ⟨r, off, x, rfl, hr, hx, hc⟩ := H.out.get hlt
      have hk0 : (0 : Int) ≤ (k : Int) := by omega
      have hkn : (k : Int) < (n : Int) := by omega
      have HX := Lib.hid hx
      obtain ⟨t, ht⟩ : ∃ t, insW x (rangeM 0 many) = t := ⟨_, rfl⟩
      have HTR := Lib.hid ht

      have EQ : Hid (∀ W, Below wr.heap.size wr W → W.cell? ⟨r, off + k * 4, none⟩ = some (.int .u64 (x.a0 : Int)) ∧ W.cell? ⟨r, off + k * 4 + 1, none⟩ = some (.int .u64 (x.a1 : Int)) ∧ W.cell? ⟨r, off + k * 4 + 2, none⟩ = some (.int .u64 (x.a2 : Int)) ∧ W.cell? ⟨r, off + k * 4 + 3, none⟩ = some (.int .u64 (x.a3 : Int))) := Lib.hid fun W hW => hc W (bl_trans HB.out HB.out.size hW)
      clear hx hc hr
      go_wp2_with fail
      refine wp_region_held (S := fun W => Below wr.heap.size wr W) (by kernel_rfl) ?_
      change wpAnyH _ _ _ _ _ _ _ _ (World.drew _)
      have hS0 : Below wr.heap.size wr wr.drew := (Below.refl _ _).drew
      refine wpAnyH_take (i := 0) (v := .slice (some ⟨r, off, none⟩) n c) rfl (by kernel_rfl) (by kernel_rfl) (by kernel_rfl) (fun _ _ _ h => h) (Or.inl ⟨by rfl, by intro W hW; go_simp; try (with_reducible rfl)⟩) hS0 ?_
      refine wpAnyH_take (i := 1) (v := .int .i64 (k : Int)) rfl (by kernel_rfl) (by kernel_rfl) (by kernel_rfl) (fun _ _ _ h => h) (Or.inl ⟨by rfl, by intro W hW; go_simp; try (with_reducible rfl)⟩) hS0 ?_
      refine wpAnyH_take (i := 2) (v := .pointer (some ⟨r, off + k * 4, none⟩)) rfl (by kernel_rfl) (by kernel_rfl) (by kernel_rfl) (fun _ _ _ h => h) (Or.inl ⟨by rfl, by intro W hW; go_simp; try (with_reducible rfl)⟩) hS0 ?_
      refine wpAnyH_take (i := 3) (v := aggU (x.a0 : Int) (x.a1 : Int) (x.a2 : Int) (x.a3 : Int)) rfl (by kernel_rfl) (by kernel_rfl) (by kernel_rfl) (fun _ _ _ h => h) (Or.inl ⟨by rfl, by intro W hW; obtain ⟨q0, q1, q2, q3⟩ := EQ.out W hW; go_simp; try (with_reducible rfl)⟩) hS0 ?_
      refine wpAnyH_take (i := 4) (v := .int .i64 many) rfl (by kernel_rfl) (by kernel_rfl) (by kernel_rfl) (fun _ _ _ h => h) (Or.inl ⟨by rfl, by intro W hW; go_simp; try (with_reducible rfl)⟩) hS0 ?_
      refine wpAnyH_one (i := 5) (by kernel_rfl) rfl (fun K hK => ?_)
      go_simp
      refine (rrange_any 0 many _ (by omega) (by omega)).mono ?_
      rintro e w4 ⟨rfl, hb4⟩
      have hS4 : Below wr.heap.size wr w4 := bl_trans hS0 hS0.size hb4
      go_simp
      refine hK _ _ ⟨hS4, ?_⟩; clear hK K
      refine wpAnyH_one (i := 6) (by kernel_rfl) rfl (fun K hK => ?_)
      go_simp
      refine (refInside_any x.a0 x.a1 x.a2 x.a3 (rangeM 0 many).a0 (rangeM 0 many).a1 (rangeM 0 many).a2 (rangeM 0 many).a3 w4).mono ?_
      rintro e w5 ⟨rfl, hb5⟩
      have hS5 : Below wr.heap.size wr w5 := bl_trans hS4 hS4.size hb5
      go_simp
      refine hK _ _ ⟨hS5, ?_⟩; clear hK K
      refine wpAnyH_one (i := 7) (by kernel_rfl) rfl (fun K hK => ?_)
      go_simp
      refine hK _ _ ⟨hS5, ?_⟩; clear hK K
      refine wpAnyH_done (by kernel_rfl) ?_ _
      have hT2 : insB x.a0 x.a1 x.a2 x.a3 (rangeM 0 many).a0 (rangeM 0 many).a1 (rangeM 0 many).a2 (rangeM 0 many).a3 = t := ht
      rw [hT2]
      have HB2 : Hid (Below w.heap.size w w5) := Lib.hid (bl_trans HB.out HB.out.size hS5)
      clear hS5 hb5 hS4 hb4 hS0 hT2 ht EQ

      cases t
      · go_wp2_with fail
        go_ret
        exact ⟨by rw [rightM_false HX.out HTR.out]; rfl, HB2.out⟩
      · go_wp2_with fail
        go_roundw
        case rel => exact ⟨k + 1, by go_num, by omega, Lib.hid (rightM_take HX.out HR.out HTR.out), HB2⟩
        case measure => simp [intOf]; omega
    · obtain rfl : k = n := by omega
      have h2 : (k : Int) ≤ 2000 := by omega
      have HF : Hid (rightM xs many = true) := Lib.hid (by have := HR.out; rw [List.take_of_length_le (by have := HLN.out; omega)] at this; exact this)
      go_wp2_with fail
      go_ret
      exact ⟨by rw [HF.out]; rfl, HB.out⟩

def atM (xs : List W4) (pc : Int) : W4 := if pc < 0 then zW else xs.getD pc.toNat zW

set_option maxRecDepth 100000 in
set_option maxHeartbeats 2000000 in
theorem mAt_any (A : Option Addr) (n c : Nat) (xs : List W4) (pc : Int) (w : World) (h : SlW w w.heap.size A n c xs) :
    Calls Tryd.prog 9 #[.slice A n c, .int .i64 pc] w (IsW (atM xs pc) w) := by
  obtain ⟨w1, hw1⟩ : ∃ w1, w.alloc (.cells #[.int .u64 0, .int .u64 0, .int .u64 0, .int .u64 0] 27) = w1 := ⟨_, rfl⟩
  have hb1 : Below w.heap.size w w1 := by rw [← hw1]; exact bl_one _
  have hcl : Cells w1 w.heap.size [.int .u64 0, .int .u64 0, .int .u64 0, .int .u64 0] := by rw [← hw1]; exact Cells.new w [.int .u64 0, .int .u64 0, .int .u64 0, .int .u64 0] _
  have z0 : w1.cell? ⟨w.heap.size, 0, none⟩ = some (.int .u64 0) := hcl.at_ 0 _ rfl
  have z1 : w1.cell? ⟨w.heap.size, 1, none⟩ = some (.int .u64 0) := hcl.at_ 1 _ rfl
  have z2 : w1.cell? ⟨w.heap.size, 2, none⟩ = some (.int .u64 0) := hcl.at_ 2 _ rfl
  have z3 : w1.cell? ⟨w.heap.size, 3, none⟩ = some (.int .u64 0) := hcl.at_ 3 _ rfl
  have f0 : w1.frozen? ⟨w.heap.size, 0, none⟩ = false := hcl.fz 0 (by simp)
  have f1 : w1.frozen? ⟨w.heap.size, 1, none⟩ = false := hcl.fz 1 (by simp)
  have f2 : w1.frozen? ⟨w.heap.size, 2, none⟩ = false := hcl.fz 2 (by simp)
  have f3 : w1.frozen? ⟨w.heap.size, 3, none⟩ = false := hcl.fz 3 (by simp)
  have HB1 := Lib.hid hb1
  have H := Lib.hid h
  clear h hcl hb1
  by_cases hin : 0 ≤ pc ∧ pc < (n : Int)
  · obtain ⟨k, rfl⟩ : ∃ k : Nat, pc = (k : Int) := ⟨pc.toNat, by omega⟩
    have hk : k < n := by omega
    obtain ⟨r, off, x, rfl, hr, hx, hc⟩ := H.out.get hk
    obtain ⟨q0, q1, q2, q3⟩ := hc w1 HB1.out
    have hk0 : decide ((k : Int) < 0) = false := by simp
    have hk1 : decide ((k : Int) ≥ (n : Int)) = false := by simp; omega
    have hk2 : (0 : Int) ≤ (k : Int) := by omega
    have hk3 : (k : Int) < (n : Int) := by omega
    have HV : Hid (atM xs (k : Int) = x) := Lib.hid (by unfold atM; rw [if_neg (by omega), Int.toNat_natCast, List.getD_eq_getElem?_getD, hx]; rfl)
    clear hx hc
    go_enter Tryd.func9, Tryd.ntmps9
    go_wp2_with fail
    refine bodyPost_ret (v := aggW x) (by simp [results, Tryd.results9, go_sem, z0, z1, z2, z3]) rfl ⟨by rw [HV.out], ?_⟩
    exact below3 HB1.out (Nat.le_refl _) _ _ _ _
  · have HV : Hid (atM xs pc = zW) := Lib.hid (by
      unfold atM
      split
      · rfl
      · have hl := H.out.1
        rw [List.getD_eq_getElem?_getD, List.getElem?_eq_none (by omega)]
        rfl)
    have hz : Below w.heap.size w ((((w1.setCell ⟨w.heap.size, 0, none⟩ (.int .u64 0)).setCell ⟨w.heap.size, 1, none⟩ (.int .u64 0)).setCell ⟨w.heap.size, 2, none⟩ (.int .u64 0)).setCell ⟨w.heap.size, 3, none⟩ (.int .u64 0)) := below3 HB1.out (Nat.le_refl _) _ _ _ _
    have HZ := Lib.hid hz
    clear hz
    by_cases hneg : pc < 0
    · go_enter Tryd.func9, Tryd.ntmps9
      go_wp2_with fail
      refine bodyPost_ret (v := aggW zW) (by simp [results, Tryd.results9, go_sem, z0, z1, z2, z3, zW]) rfl ⟨by rw [HV.out], HZ.out⟩
    · have hk0 : decide (pc < 0) = false := by simpa using hneg
      have hk1 : decide (pc ≥ (n : Int)) = true := by simp; omega
      have hge : (n : Int) ≤ pc := by omega
      go_enter Tryd.func9, Tryd.ntmps9
      go_wp2_with fail
      refine bodyPost_ret (v := aggW zW) (by simp [results, Tryd.results9, go_sem, z0, z1, z2, z3, zW]) rfl ⟨by rw [HV.out], HZ.out⟩

set_option maxRecDepth 100000 in
set_option maxHeartbeats 2000000 in
theorem rAt_any (A : Option Addr) (n c : Nat) (xs : List W4) (pc : Int) (w : World) (h : SlW w w.heap.size A n c xs) :
    Calls Tryd.prog 10 #[.slice A n c, .int .i64 pc] w (IsW (atM xs pc) w) := by
  obtain ⟨w1, hw1⟩ : ∃ w1, w.alloc (.cells #[.int .u64 0, .int .u64 0, .int .u64 0, .int .u64 0] 27) = w1 := ⟨_, rfl⟩
  have hb1 : Below w.heap.size w w1 := by rw [← hw1]; exact bl_one _
  have hcl : Cells w1 w.heap.size [.int .u64 0, .int .u64 0, .int .u64 0, .int .u64 0] := by rw [← hw1]; exact Cells.new w [.int .u64 0, .int .u64 0, .int .u64 0, .int .u64 0] _
  have z0 : w1.cell? ⟨w.heap.size, 0, none⟩ = some (.int .u64 0) := hcl.at_ 0 _ rfl
  have z1 : w1.cell? ⟨w.heap.size, 1, none⟩ = some (.int .u64 0) := hcl.at_ 1 _ rfl
  have z2 : w1.cell? ⟨w.heap.size, 2, none⟩ = some (.int .u64 0) := hcl.at_ 2 _ rfl
  have z3 : w1.cell? ⟨w.heap.size, 3, none⟩ = some (.int .u64 0) := hcl.at_ 3 _ rfl
  have f0 : w1.frozen? ⟨w.heap.size, 0, none⟩ = false := hcl.fz 0 (by simp)
  have f1 : w1.frozen? ⟨w.heap.size, 1, none⟩ = false := hcl.fz 1 (by simp)
  have f2 : w1.frozen? ⟨w.heap.size, 2, none⟩ = false := hcl.fz 2 (by simp)
  have f3 : w1.frozen? ⟨w.heap.size, 3, none⟩ = false := hcl.fz 3 (by simp)
  have HB1 := Lib.hid hb1
  have H := Lib.hid h
  clear h hcl hb1
  by_cases hin : 0 ≤ pc ∧ pc < (n : Int)
  · obtain ⟨k, rfl⟩ : ∃ k : Nat, pc = (k : Int) := ⟨pc.toNat, by omega⟩
    have hk : k < n := by omega
    obtain ⟨r, off, x, rfl, hr, hx, hc⟩ := H.out.get hk
    obtain ⟨q0, q1, q2, q3⟩ := hc w1 HB1.out
    have hk0 : decide ((k : Int) < 0) = false := by simp
    have hk1 : decide ((k : Int) ≥ (n : Int)) = false := by simp; omega
    have hk2 : (0 : Int) ≤ (k : Int) := by omega
    have hk3 : (k : Int) < (n : Int) := by omega
    have HV : Hid (atM xs (k : Int) = x) := Lib.hid (by unfold atM; rw [if_neg (by omega), Int.toNat_natCast, List.getD_eq_getElem?_getD, hx]; rfl)
    clear hx hc
    go_enter Tryd.func10, Tryd.ntmps10
    go_wp2_with fail
    refine bodyPost_ret (v := aggW x) (by simp [results, Tryd.results10, go_sem, z0, z1, z2, z3]) rfl ⟨by rw [HV.out], ?_⟩
    exact below3 HB1.out (Nat.le_refl _) _ _ _ _
  · have HV : Hid (atM xs pc = zW) := Lib.hid (by
      unfold atM
      split
      · rfl
      · have hl := H.out.1
        rw [List.getD_eq_getElem?_getD, List.getElem?_eq_none (by omega)]
        rfl)
    have hz : Below w.heap.size w ((((w1.setCell ⟨w.heap.size, 0, none⟩ (.int .u64 0)).setCell ⟨w.heap.size, 1, none⟩ (.int .u64 0)).setCell ⟨w.heap.size, 2, none⟩ (.int .u64 0)).setCell ⟨w.heap.size, 3, none⟩ (.int .u64 0)) := below3 HB1.out (Nat.le_refl _) _ _ _ _
    have HZ := Lib.hid hz
    clear hz
    by_cases hneg : pc < 0
    · go_enter Tryd.func10, Tryd.ntmps10
      go_wp2_with fail
      refine bodyPost_ret (v := aggW zW) (by simp [results, Tryd.results10, go_sem, z0, z1, z2, z3, zW]) rfl ⟨by rw [HV.out], HZ.out⟩
    · have hk0 : decide (pc < 0) = false := by simpa using hneg
      have hk1 : decide (pc ≥ (n : Int)) = true := by simp; omega
      have hge : (n : Int) ≤ pc := by omega
      go_enter Tryd.func10, Tryd.ntmps10
      go_wp2_with fail
      refine bodyPost_ret (v := aggW zW) (by simp [results, Tryd.results10, go_sem, z0, z1, z2, z3, zW]) rfl ⟨by rw [HV.out], HZ.out⟩

end Go.Proofs.YtgjmmbhakjalgaaDoor
