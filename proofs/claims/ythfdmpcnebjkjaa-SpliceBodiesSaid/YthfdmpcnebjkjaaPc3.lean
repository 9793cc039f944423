/-
  Pieces of bodies: small functions; the end.
-/
import Derived.Test.YthfdmpcnebjkjaaPc2
namespace Go.Proofs.Ythfdmpcnebjkjaa
open Go.RowKit
set_option linter.unusedSimpArgs false
set_option linter.unusedVariables false
set_option maxRecDepth 100000 in
set_option maxHeartbeats 4000000 in
theorem first_any (s : ByteArray) (b : Bool) (A0 : Option Addr) (n0 c0 : Nat) (A1 : Option Addr) (n1 c1 : Nat) (A2 : Option Addr) (n2 c2 : Nat) (A3 : Option Addr) (n3 c3 : Nat) (A4 : Option Addr) (n4 c4 : Nat) (A5 : Option Addr) (n5 c5 : Nat) (A6 : Option Addr) (n6 c6 : Nat) (A7 : Option Addr) (n7 c7 : Nat) (A8 : Option Addr) (n8 c8 : Nat) (w : World) : Calls Try.prog 47 #[.agg #[.string s, .bool b, .slice A0 n0 c0, .slice A1 n1 c1, .slice A2 n2 c2, .slice A3 n3 c3, .slice A4 n4 c4, .slice A5 n5 c5, .slice A6 n6 c6, .slice A7 n7 c7, .slice A8 n8 c8]] w fun e w' => e = .returned (.int .i64 (n1 : Int)) ∧ Below w.heap.size w w' := by
  obtain ⟨w2, hw2⟩ : ∃ X, w.alloc (.cells #[.string s, .bool b, .slice A0 n0 c0, .slice A1 n1 c1, .slice A2 n2 c2, .slice A3 n3 c3, .slice A4 n4 c4, .slice A5 n5 c5, .slice A6 n6 c6, .slice A7 n7 c7, .slice A8 n8 c8] 28) = X := ⟨_, rfl⟩
  obtain ⟨g, hg⟩ : ∃ g, w.heap.size = g := ⟨_, rfl⟩
  have hc : Cells w2 g #[.string s, .bool b, .slice A0 n0 c0, .slice A1 n1 c1, .slice A2 n2 c2, .slice A3 n3 c3, .slice A4 n4 c4, .slice A5 n5 c5, .slice A6 n6 c6, .slice A7 n7 c7, .slice A8 n8 c8].toList := by rw [← hw2, ← hg]; exact Cells.new w #[.string s, .bool b, .slice A0 n0 c0, .slice A1 n1 c1, .slice A2 n2 c2, .slice A3 n3 c3, .slice A4 n4 c4, .slice A5 n5 c5, .slice A6 n6 c6, .slice A7 n7 c7, .slice A8 n8 c8].toList _
  have HB : Hid (Below w.heap.size w w2) := Lib.hid (by rw [← hw2]; exact bl_one _)
  have q3 := hc.at_ 3 _ rfl
  clear hc
  go_enter Try.func47, Try.ntmps47
  go_wp2_with fail
  go_ret
  exact ⟨rfl, HB.out⟩
set_option maxRecDepth 100000 in
set_option maxHeartbeats 4000000 in
theorem from_any (s : ByteArray) (b : Bool) (A0 : Option Addr) (n0 c0 : Nat) (A1 : Option Addr) (n1 c1 : Nat) (A2 : Option Addr) (n2 c2 : Nat) (A3 : Option Addr) (n3 c3 : Nat) (A4 : Option Addr) (n4 c4 : Nat) (A5 : Option Addr) (n5 c5 : Nat) (A6 : Option Addr) (n6 c6 : Nat) (A7 : Option Addr) (n7 c7 : Nat) (A8 : Option Addr) (n8 c8 : Nat) (sa sn ss sp sl : Int) (w : World) (hn : n1 ≤ 300) : Calls Try.prog 27 #[.agg #[.int .i64 sa, .int .i64 sn, .int .i64 ss, .int .i64 sp, .int .i64 sl], .agg #[.string s, .bool b, .slice A0 n0 c0, .slice A1 n1 c1, .slice A2 n2 c2, .slice A3 n3 c3, .slice A4 n4 c4, .slice A5 n5 c5, .slice A6 n6 c6, .slice A7 n7 c7, .slice A8 n8 c8]] w fun e w' => e = .returned (.int .i64 (wrap64 (wrap64 (sa + (n1 : Int)) + 1))) ∧ Below w.heap.size w w' := by
  obtain ⟨w2, hw2⟩ : ∃ X, (w.alloc (.cells #[.int .i64 sa, .int .i64 sn, .int .i64 ss, .int .i64 sp, .int .i64 sl] 30)).alloc (.cells #[.string s, .bool b, .slice A0 n0 c0, .slice A1 n1 c1, .slice A2 n2 c2, .slice A3 n3 c3, .slice A4 n4 c4, .slice A5 n5 c5, .slice A6 n6 c6, .slice A7 n7 c7, .slice A8 n8 c8] 28) = X := ⟨_, rfl⟩
  obtain ⟨g, hg⟩ : ∃ g, w.heap.size = g := ⟨_, rfl⟩
  have hc : Cells w2 (g + 1) #[.string s, .bool b, .slice A0 n0 c0, .slice A1 n1 c1, .slice A2 n2 c2, .slice A3 n3 c3, .slice A4 n4 c4, .slice A5 n5 c5, .slice A6 n6 c6, .slice A7 n7 c7, .slice A8 n8 c8].toList := by
    have h2 := Cells.new (w.alloc (.cells #[.int .i64 sa, .int .i64 sn, .int .i64 ss, .int .i64 sp, .int .i64 sl] 30)) #[.string s, .bool b, .slice A0 n0 c0, .slice A1 n1 c1, .slice A2 n2 c2, .slice A3 n3 c3, .slice A4 n4 c4, .slice A5 n5 c5, .slice A6 n6 c6, .slice A7 n7 c7, .slice A8 n8 c8].toList 28
    have e : (w.alloc (.cells #[.int .i64 sa, .int .i64 sn, .int .i64 ss, .int .i64 sp, .int .i64 sl] 30)).heap.size = w.heap.size + 1 := by simp
    rw [e] at h2
    rw [← hw2, ← hg]
    exact h2
  have hs : Cells w2 g #[.int .i64 sa, .int .i64 sn, .int .i64 ss, .int .i64 sp, .int .i64 sl].toList := by rw [← hw2, ← hg]; exact (Cells.new w #[.int .i64 sa, .int .i64 sn, .int .i64 ss, .int .i64 sp, .int .i64 sl].toList _).on (bl_one _)
  have HB : Hid (Below w.heap.size w w2) := Lib.hid (by rw [← hw2]; exact two_below)
  have q3 := hc.at_ 3 _ rfl
  have q0 := hs.at_ 0 _ rfl
  have k1 : (n1 : Int) ≤ 300 := by omega
  have p1 : (0 : Int) ≤ (n1 : Int) := by omega
  clear hc hs
  go_enter Try.func27, Try.ntmps27
  go_wp2_with fail
  go_ret
  exact ⟨rfl, HB.out⟩
def lineM (ls : List Int) (pc : Nat) : Int := ls.getD pc 0
set_option maxRecDepth 100000 in
set_option maxHeartbeats 4000000 in
theorem lat_any (A : Option Addr) (n c B : Nat) (ls : List Int) (pc : Nat) (w : World) (h : SlI w B A n c ls) (hn : n ≤ 100000) (hpc : pc ≤ 100000) : Calls Try.prog 45 #[.slice A n c, .int .i64 (pc : Int)] w fun e w' => e = .returned (.int .i64 (lineM ls pc)) ∧ w = w' := by
  have p0 : (0 : Int) ≤ (pc : Int) := by omega
  have d0 : decide ((pc : Int) < 0) = false := by simp
  have hl := h.1
  by_cases hlt : pc < n
  · have d1 : decide (n ≤ pc) = false := by simp; omega
    have hkn : (pc : Int) < (n : Int) := by omega
    obtain ⟨b, off, rfl, hb, hc⟩ := h.getD hlt 0
    have HV : Hid (ls.getD pc 0 = lineM ls pc) := Lib.hid rfl
    rw [HV.out] at hc
    clear hb h hlt
    go_enter Try.func45, Try.ntmps45
    go_wp2_with fail
    go_ret
    exact ⟨rfl, rfl⟩
  · have d1 : decide (n ≤ pc) = true := by simp; omega
    have HV : Hid (lineM ls pc = 0) := Lib.hid (by unfold lineM; rw [List.getD_eq_getElem?_getD, List.getElem?_eq_none (by omega)]; rfl)
    clear h
    go_enter Try.func45, Try.ntmps45
    go_wp2_with fail
    go_ret
    exact ⟨by rw [HV.out]; rfl, rfl⟩
set_option maxRecDepth 100000 in
set_option maxHeartbeats 8000000 in
theorem pbare_any (s : ByteArray) (b : Bool) (A0 : Option Addr) (n0 c0 : Nat) (A1 : Option Addr) (n1 c1 : Nat) (A2 : Option Addr) (n2 c2 : Nat) (A3 : Option Addr) (n3 c3 : Nat) (A4 : Option Addr) (n4 c4 : Nat) (A5 : Option Addr) (n5 c5 : Nat) (A6 : Option Addr) (n6 c6 : Nat) (A7 : Option Addr) (n7 c7 : Nat) (A8 : Option Addr) (n8 c8 : Nat) (w : World) (h6 : n6 ≤ 100000000000000) (h7 : n7 ≤ 100000000000000) (h8 : n8 ≤ 100000000000000) (r : Bool) (hr : r = decide (n6 + n7 + n8 = 0)) :
    Calls Try.prog 55 #[.agg #[.string s, .bool b, .slice A0 n0 c0, .slice A1 n1 c1, .slice A2 n2 c2, .slice A3 n3 c3, .slice A4 n4 c4, .slice A5 n5 c5, .slice A6 n6 c6, .slice A7 n7 c7, .slice A8 n8 c8]] w fun e w' => e = .returned (.bool r) ∧ Below w.heap.size w w' := by
  obtain ⟨w1, hw1⟩ : ∃ X, w.alloc (.cells #[.string s, .bool b, .slice A0 n0 c0, .slice A1 n1 c1, .slice A2 n2 c2, .slice A3 n3 c3, .slice A4 n4 c4, .slice A5 n5 c5, .slice A6 n6 c6, .slice A7 n7 c7, .slice A8 n8 c8] 28) = X := ⟨_, rfl⟩
  obtain ⟨g, hg⟩ : ∃ g, w.heap.size = g := ⟨_, rfl⟩
  have hc : Cells w1 g #[.string s, .bool b, .slice A0 n0 c0, .slice A1 n1 c1, .slice A2 n2 c2, .slice A3 n3 c3, .slice A4 n4 c4, .slice A5 n5 c5, .slice A6 n6 c6, .slice A7 n7 c7, .slice A8 n8 c8].toList := by rw [← hw1, ← hg]; exact Cells.new w #[.string s, .bool b, .slice A0 n0 c0, .slice A1 n1 c1, .slice A2 n2 c2, .slice A3 n3 c3, .slice A4 n4 c4, .slice A5 n5 c5, .slice A6 n6 c6, .slice A7 n7 c7, .slice A8 n8 c8].toList _
  have HB : Hid (Below w.heap.size w w1) := Lib.hid (by rw [← hw1]; exact bl_one _)
  have q8 := hc.at_ 8 _ rfl
  have q9 := hc.at_ 9 _ rfl
  have q10 := hc.at_ 10 _ rfl
  clear hc
  by_cases e6 : n6 = 0
  · have t6 : ((n6 : Int) == 0) = true := by rw [beq_iff_eq]; omega
    by_cases e7 : n7 = 0
    · have t7 : ((n7 : Int) == 0) = true := by rw [beq_iff_eq]; omega
      by_cases e8 : n8 = 0
      · have t8 : ((n8 : Int) == 0) = true := by rw [beq_iff_eq]; omega
        obtain rfl : r = true := by rw [hr]; simp; omega
        clear hr e6 e7 e8
        go_enter Try.func55, Try.ntmps55
        go_wp2_with fail
        go_ret
        exact ⟨rfl, HB.out⟩
      · have t8 : ((n8 : Int) == 0) = false := by rw [beq_eq_false_iff_ne]; omega
        obtain rfl : r = false := by rw [hr]; simp; omega
        clear hr e6 e7 e8
        go_enter Try.func55, Try.ntmps55
        go_wp2_with fail
        go_ret
        exact ⟨rfl, HB.out⟩
    · have t7 : ((n7 : Int) == 0) = false := by rw [beq_eq_false_iff_ne]; omega
      obtain rfl : r = false := by rw [hr]; simp; omega
      clear hr e6 e7
      go_enter Try.func55, Try.ntmps55
      go_wp2_with fail
      go_ret
      exact ⟨rfl, HB.out⟩
  · have t6 : ((n6 : Int) == 0) = false := by rw [beq_eq_false_iff_ne]; omega
    obtain rfl : r = false := by rw [hr]; simp; omega
    clear hr e6
    go_enter Try.func55, Try.ntmps55
    go_wp2_with fail
    go_ret
    exact ⟨rfl, HB.out⟩
theorem wr64 (x : Int) : IntKind.i64.wrap x = wrap64 x := by unfold wrap64; exact IntKind.wrap_i64 x
def endC (np : Nat) (ss : Int) (j : Nat) : List DInstr := (List.range j).map fun i : Nat => ⟨2, wrap64 (wrap64 (ss + (np : Int)) + (i : Int))⟩
theorem endC_next (np : Nat) (ss : Int) (j : Nat) : endC np ss j ++ [⟨2, wrap64 (wrap64 (ss + (np : Int)) + (j : Int))⟩] = endC np ss (j + 1) := by
  unfold endC
  rw [List.range_succ, List.map_append]
  rfl
def EK (F : Nat → Prop) (w w2 W : World) : Prop := Kp (fun j => ¬ FG2 F w w2 j) w2 W
theorem EK.trans {F : Nat → Prop} {w w2 a b : World} (h : EK F w w2 a) (k : Kp (fun j => ¬ FG2 F w w2 j) a b) : EK F w w2 b := Kp.trans h k
theorem PcW.kp4 {base : Nat} {F : Nat → Prop} {pb k : Nat} {l0 : List DInstr} {l1 l2 : List Int} {v3 v4 : Value} {W W' : World} (h : PcW base F pb k l0 l1 l2 v3 v4 W) (hb : Below W.heap.size W W') : PcW base F pb k l0 l1 l2 v3 v4 W' := h.on hb
theorem below_drew_of {w w' : World} (h : Below w.drew.heap.size w.drew w') : Below w.heap.size w w' := ⟨h.os, h.tape, h.output, h.size, h.block⟩
set_option maxRecDepth 100000 in
set_option maxHeartbeats 16000000 in
theorem end_any (base : Nat) (F : Nat → Prop) (pb k : Nat) (l0 : List DInstr) (l1 l2 : List Int) (v3 v4 : Value) (s : ByteArray) (b : Bool) (A0 : Option Addr) (n0 c0 : Nat) (A1 : Option Addr) (n1 c1 : Nat) (A2 : Option Addr) (n2 c2 : Nat) (A3 : Option Addr) (n3 c3 : Nat) (A4 : Option Addr) (n4 c4 : Nat) (A5 : Option Addr) (n5 c5 : Nat) (A6 : Option Addr) (n6 c6 : Nat) (A7 : Option Addr) (n7 c7 : Nat) (A8 : Option Addr) (n8 c8 : Nat) (sa sn ss sp sl : Int) (w : World) (h : PcW base F pb k l0 l1 l2 v3 v4 w) (hF : ∀ j, F j → j < w.heap.size) (hn : n1 ≤ 300) (hn2 : n2 ≤ 300) (hk : k ≤ 10000) :
    Calls Try.prog 25 #[.pointer (some ⟨pb, 0, none⟩), .agg #[.string s, .bool b, .slice A0 n0 c0, .slice A1 n1 c1, .slice A2 n2 c2, .slice A3 n3 c3, .slice A4 n4 c4, .slice A5 n5 c5, .slice A6 n6 c6, .slice A7 n7 c7, .slice A8 n8 c8], .agg #[.int .i64 sa, .int .i64 sn, .int .i64 ss, .int .i64 sp, .int .i64 sl]] w (IsPc base F pb (k + n2) (l0 ++ endC n1 ss n2) (l1 ++ List.replicate n2 sl) (l2 ++ List.replicate n2 sp) v3 v4 w) := by
  obtain ⟨w2, hw2⟩ : ∃ X, (w.alloc (.cells #[.string s, .bool b, .slice A0 n0 c0, .slice A1 n1 c1, .slice A2 n2 c2, .slice A3 n3 c3, .slice A4 n4 c4, .slice A5 n5 c5, .slice A6 n6 c6, .slice A7 n7 c7, .slice A8 n8 c8] 28)).alloc (.cells #[.int .i64 sa, .int .i64 sn, .int .i64 ss, .int .i64 sp, .int .i64 sl] 30) = X := ⟨_, rfl⟩
  obtain ⟨g, hg⟩ : ∃ g, w.heap.size = g := ⟨_, rfl⟩
  have hb2 : Below w.heap.size w w2 := by rw [← hw2]; exact two_below
  have ht : TwoB w g s b A0 n0 c0 A1 n1 c1 A2 n2 c2 A3 n3 c3 A4 n4 c4 A5 n5 c5 A6 n6 c6 A7 n7 c7 A8 n8 c8 sa sn ss sp sl w2 := by rw [← hw2, ← hg]; exact TwoB.new w s b A0 n0 c0 A1 n1 c1 A2 n2 c2 A3 n3 c3 A4 n4 c4 A5 n5 c5 A6 n6 c6 A7 n7 c7 A8 n8 c8 sa sn ss sp sl
  have hz2 : w2.heap.size = g + 2 := by rw [← hw2]; simp; omega
  have HP2 : Hid (PcW base (FG2 F w w2) pb k l0 l1 l2 v3 v4 w2) := Lib.hid (h.widen hb2)
  have HKW : Hid (Kp (fun j => ¬ F j) w w2) := Lib.hid ((Kp.refl _ w).ofBelow hb2)
  have HQ : Hid (∀ W, Kp (fun j => ¬ FG2 F w w2 j) w2 W → W.cell? ⟨g, 3, none⟩ = some (.slice A1 n1 c1) ∧ W.cell? ⟨g, 4, none⟩ = some (.slice A2 n2 c2) ∧ W.cell? ⟨g + 1, 1, none⟩ = some (.int .i64 sn) ∧ W.cell? ⟨g + 1, 2, none⟩ = some (.int .i64 ss) ∧ W.cell? ⟨g + 1, 3, none⟩ = some (.int .i64 sp) ∧ W.cell? ⟨g + 1, 4, none⟩ = some (.int .i64 sl)) := Lib.hid fun W hW => by
    have h3 := ht.kp hW (fun h => h (.inr ⟨by omega, by omega⟩)) (fun h => h (.inr ⟨by omega, by omega⟩))
    exact ⟨h3.a.at_ 3 _ rfl, h3.a.at_ 4 _ rfl, h3.b.at_ 1 _ rfl, h3.b.at_ 2 _ rfl, h3.b.at_ 3 _ rfl, h3.b.at_ 4 _ rfl⟩
  have HQA : Hid (∀ W, Kp (fun j => ¬ FG2 F w w2 j) w2 W → W.cell? ⟨g, 0, none⟩ = some (.string s) ∧ W.cell? ⟨g, 1, none⟩ = some (.bool b) ∧ W.cell? ⟨g, 2, none⟩ = some (.slice A0 n0 c0) ∧ W.cell? ⟨g, 3, none⟩ = some (.slice A1 n1 c1) ∧ W.cell? ⟨g, 4, none⟩ = some (.slice A2 n2 c2) ∧ W.cell? ⟨g, 5, none⟩ = some (.slice A3 n3 c3) ∧ W.cell? ⟨g, 6, none⟩ = some (.slice A4 n4 c4) ∧ W.cell? ⟨g, 7, none⟩ = some (.slice A5 n5 c5) ∧ W.cell? ⟨g, 8, none⟩ = some (.slice A6 n6 c6) ∧ W.cell? ⟨g, 9, none⟩ = some (.slice A7 n7 c7) ∧ W.cell? ⟨g, 10, none⟩ = some (.slice A8 n8 c8)) := Lib.hid fun W hW => by
    have h3 := ht.kp hW (fun h => h (.inr ⟨by omega, by omega⟩)) (fun h => h (.inr ⟨by omega, by omega⟩))
    exact ⟨h3.a.at_ 0 _ rfl, h3.a.at_ 1 _ rfl, h3.a.at_ 2 _ rfl, h3.a.at_ 3 _ rfl, h3.a.at_ 4 _ rfl, h3.a.at_ 5 _ rfl, h3.a.at_ 6 _ rfl, h3.a.at_ 7 _ rfl, h3.a.at_ 8 _ rfl, h3.a.at_ 9 _ rfl, h3.a.at_ 10 _ rfl⟩
  obtain ⟨a3, a4, b1, b2, b3, b4⟩ := HQ.out w2 (Kp.refl _ _)
  clear h hb2 ht hz2 hF
  have k1 : (n1 : Int) ≤ 300 := by omega
  have p1 : (0 : Int) ≤ (n1 : Int) := by omega
  have k2 : (n2 : Int) ≤ 300 := by omega
  have p2 : (0 : Int) ≤ (n2 : Int) := by omega
  go_enter Try.func25, Try.ntmps25
  go_wp2_with fail
  clear a3 a4 b1 b2 b3 b4 hw2 hg
  go_loopw [10] (fun iv wr => ∃ (j : Nat), iv = .int .i64 (j : Int) ∧ j ≤ n2 ∧ Hid (PcW base (FG2 F w w2) pb (k + j) (l0 ++ endC n1 ss j) (l1 ++ List.replicate j sl) (l2 ++ List.replicate j sp) v3 v4 wr ∧ EK F w w2 wr)) (fun iv _ => n2 - (intOf iv).toNat)
  case atStart => exact ⟨0, rfl, Nat.zero_le _, Lib.hid ⟨by simpa [endC] using HP2.out, Kp.refl _ _⟩⟩
  case round =>
    obtain ⟨j, rfl, hj, HK⟩ := hrel
    have hj0 : (0 : Int) ≤ (j : Int) := by omega
    have hj1 : (j : Int) ≤ 300 := by omega
    by_cases hlt : j < n2
    · have hjn : (j : Int) < (n2 : Int) := by omega
      go_wp2_with fail
      refine wp_region_held (S := fun W => EK F w w2 W) (by kernel_rfl) ?_
      change wpAnyH _ _ _ _ _ _ _ _ (World.drew _)
      have hS0 : EK F w w2 wr.drew := Kp.drew HK.out.2
      refine wpAnyH_take (i := 0) (v := .pointer (some ⟨pb, 0, none⟩)) rfl (by kernel_rfl) (by kernel_rfl) (by kernel_rfl) (fun _ _ _ h => h) (Or.inl ⟨by rfl, by intro W hW; go_simp; try (first | (with_reducible rfl) | omega)⟩) hS0 ?_
      refine wpAnyH_take (i := 1) (v := .pointer (some ⟨g + 1, 4, none⟩)) rfl (by kernel_rfl) (by kernel_rfl) (by kernel_rfl) (fun _ _ _ h => h) (Or.inl ⟨by rfl, by intro W hW; go_simp; try (first | (with_reducible rfl) | omega)⟩) hS0 ?_
      refine wpAnyH_take (i := 3) (v := .pointer (some ⟨g + 1, 3, none⟩)) rfl (by kernel_rfl) (by kernel_rfl) (by kernel_rfl) (fun _ _ _ h => h) (Or.inl ⟨by rfl, by intro W hW; go_simp; try (first | (with_reducible rfl) | omega)⟩) hS0 ?_
      refine wpAnyH_take (i := 5) (v := .pointer (some ⟨g + 1, 2, none⟩)) rfl (by kernel_rfl) (by kernel_rfl) (by kernel_rfl) (fun _ _ _ h => h) (Or.inl ⟨by rfl, by intro W hW; go_simp; try (first | (with_reducible rfl) | omega)⟩) hS0 ?_
      refine wpAnyH_take (i := 7) (v := .agg #[.string s, .bool b, .slice A0 n0 c0, .slice A1 n1 c1, .slice A2 n2 c2, .slice A3 n3 c3, .slice A4 n4 c4, .slice A5 n5 c5, .slice A6 n6 c6, .slice A7 n7 c7, .slice A8 n8 c8]) rfl (by kernel_rfl) (by kernel_rfl) (by kernel_rfl) (fun _ _ _ h => h) (Or.inl ⟨by rfl, by intro W hW; have hq := HQA.out W hW; obtain ⟨e0, e1, e2, e3, e4, e5, e6, e7, e8, e9, e10⟩ := hq; go_simp; try (first | (with_reducible rfl) | omega)⟩) hS0 ?_
      refine wpAnyH_take (i := 10) (v := .int .i64 (j : Int)) rfl (by kernel_rfl) (by kernel_rfl) (by kernel_rfl) (fun _ _ _ h => h) (Or.inl ⟨by rfl, by intro W hW; go_simp; try (first | (with_reducible rfl) | omega)⟩) hS0 ?_
      try go_simp
      refine wpAnyH_take (i := 2) (v := .int .i64 sl) rfl (by kernel_rfl) (by kernel_rfl) (by kernel_rfl) (fun _ _ _ h => h) (Or.inl ⟨by rfl, by intro W hW; obtain ⟨a3, a4, b1, b2, b3, b4⟩ := HQ.out W hW; go_simp; try (first | (with_reducible rfl) | omega)⟩) hS0 ?_
      refine wpAnyH_take (i := 4) (v := .int .i64 sp) rfl (by kernel_rfl) (by kernel_rfl) (by kernel_rfl) (fun _ _ _ h => h) (Or.inl ⟨by rfl, by intro W hW; obtain ⟨a3, a4, b1, b2, b3, b4⟩ := HQ.out W hW; go_simp; try (first | (with_reducible rfl) | omega)⟩) hS0 ?_
      refine wpAnyH_take (i := 6) (v := .int .i64 ss) rfl (by kernel_rfl) (by kernel_rfl) (by kernel_rfl) (fun _ _ _ h => h) (Or.inl ⟨by rfl, by intro W hW; obtain ⟨a3, a4, b1, b2, b3, b4⟩ := HQ.out W hW; go_simp; try (first | (with_reducible rfl) | omega)⟩) hS0 ?_
      try go_simp
      refine wpAnyH_one (i := 8) (by kernel_rfl) rfl (fun K hK => ?_)
      go_simp
      refine (first_any s b A0 n0 c0 A1 n1 c1 A2 n2 c2 A3 n3 c3 A4 n4 c4 A5 n5 c5 A6 n6 c6 A7 n7 c7 A8 n8 c8 _).mono ?_
      rintro e w4 ⟨rfl, hb4⟩
      have hS4 : EK F w w2 w4 := hS0.trans ((Kp.refl _ _).ofBelow hb4)
      have HP4 : Hid (PcW base (FG2 F w w2) pb (k + j) (l0 ++ endC n1 ss j) (l1 ++ List.replicate j sl) (l2 ++ List.replicate j sp) v3 v4 w4) := Lib.hid (HK.out.1.kp4 (below_drew_of hb4))
      clear hb4
      go_simp
      refine hK _ _ ⟨hS4, ?_⟩; clear hK K
      refine wpAnyH_one (i := 9) (by kernel_rfl) rfl (fun K hK => ?_)
      go_simp
      refine hK _ _ ⟨hS4, ?_⟩; clear hK K
      refine wpAnyH_one (i := 11) (by kernel_rfl) rfl (fun K hK => ?_)
      go_simp
      refine hK _ _ ⟨hS4, ?_⟩; clear hK K
      refine wpAnyH_one (i := 12) (by kernel_rfl) rfl (fun K hK => ?_)
      go_simp
      refine hK _ _ ⟨hS4, ?_⟩; clear hK K
      obtain ⟨lb, hlb⟩ : ∃ X, (World.heap w4).size = X := ⟨_, rfl⟩
      obtain ⟨wa, hwa⟩ : ∃ X, World.alloc w4 (.cells #[.int .i64 2, .int .i64 (IntKind.i64.wrap (IntKind.i64.wrap (ss + (n1 : Int)) + (j : Int)))] 49) = X := ⟨_, rfl⟩
      have cL := Lib.hid (line_new sl sp 2 (IntKind.i64.wrap (IntKind.i64.wrap (ss + (n1 : Int)) + (j : Int))) w4 HP4.out (by omega))
      rw [hlb, hwa] at cL
      have hSa : EK F w w2 wa := hS4.trans (by rw [← hwa]; exact (Kp.refl _ _).alloc _)
      refine wpAnyH_one (i := 13) (by kernel_rfl) rfl (fun K hK => ?_)
      go_simp
      refine hK _ _ ⟨hSa, ?_⟩; clear hK K
      refine wpAnyH_one (i := 14) (by kernel_rfl) rfl (fun K hK => ?_)
      go_simp
      refine (cL.out).mono ?_
      rintro e w5 ⟨⟨v, rfl⟩, hp5, hk5⟩
      have hS5 : EK F w w2 w5 := hS4.trans hk5
      have HP5 := Lib.hid hp5
      clear hp5 hk5 cL hwa hlb
      go_simp
      refine hK _ _ ⟨hS5, ?_⟩; clear hK K
      try go_simp
      refine wpAnyH_done (by kernel_rfl) ?_ _
      have HN : Hid (PcW base (FG2 F w w2) pb (k + (j + 1)) (l0 ++ endC n1 ss (j + 1)) (l1 ++ List.replicate (j + 1) sl) (l2 ++ List.replicate (j + 1) sp) v3 v4 w5 ∧ EK F w w2 w5) := Lib.hid ⟨by
        have h5 := HP5.out
        rw [wr64, wr64, List.append_assoc, List.append_assoc, List.append_assoc, endC_next, rep_next, rep_next, Nat.add_assoc] at h5
        exact h5, hS5⟩
      clear hS0 hS4 hSa hS5 HP4 HP5
      go_simp
      go_wp2_with fail
      go_roundw
      case rel => exact ⟨j + 1, by go_num, by omega, HN⟩
      case measure => simp [intOf]; omega
    · obtain rfl : j = n2 := by omega
      have HN : Hid (IsPc base F pb (k + j) (l0 ++ endC n1 ss j) (l1 ++ List.replicate j sl) (l2 ++ List.replicate j sp) v3 v4 w (.returned (.tuple #[])) wr) := Lib.hid ⟨⟨_, rfl⟩, HK.out.1.less fun j hj => .inl hj, HKW.out.trans (Kp.less HK.out.2 fun j hj => .inl hj)⟩
      clear HK
      go_wp2_with fail
      go_end0
      exact HN.out
end Go.Proofs.Ythfdmpcnebjkjaa
