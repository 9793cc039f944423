import Derived.Test.YtobmjnmcjddhcaaGreatCCn4
set_option linter.unusedSimpArgs false
set_option linter.unusedVariables false
set_option maxRecDepth 100000
set_option maxHeartbeats 32000000
namespace Go.Proofs.YtobmjnmcjddhcaaGreat
open Go.RowKit
structure canOk (x : DFunc) : Prop where
 some_ : 1 ≤ x.code.length
 ins : ∀ i ∈ x.code, instrOk i
 lines : x.lines.length = x.code.length
 tab : tabOk x.nodes x.at_ x.live x.code.length
def IsCan (x : DFunc) (w : World) (e : Ending) (w' : World) : Prop := ∃ r : Int, e = .returned (.int .i64 r) ∧ (r = 0 → canOk x) ∧ Below w.heap.size w w'
theorem can_any (s : ByteArray) (b : Bool) (A0 : Option Addr) (n0 c0 : Nat) (A1 : Option Addr) (n1 c1 : Nat) (A2 : Option Addr) (n2 c2 : Nat) (A3 : Option Addr) (n3 c3 : Nat) (A4 : Option Addr) (n4 c4 : Nat) (A5 : Option Addr) (n5 c5 : Nat) (A6 : Option Addr) (n6 c6 : Nat) (A7 : Option Addr) (n7 c7 : Nat) (A8 : Option Addr) (n8 c8 : Nat) (x : DFunc) (w : World) (h : FnW w w.heap.size s b A0 n0 c0 A1 n1 c1 A2 n2 c2 A3 n3 c3 A4 n4 c4 A5 n5 c5 A6 n6 c6 A7 n7 c7 A8 n8 c8 x) :
  Calls Tryz.prog 91 #[.agg #[.string s, .bool b, .slice A0 n0 c0, .slice A1 n1 c1, .slice A2 n2 c2, .slice A3 n3 c3, .slice A4 n4 c4, .slice A5 n5 c5, .slice A6 n6 c6, .slice A7 n7 c7, .slice A8 n8 c8]] w (IsCan x w) := by
 obtain ⟨w1, hw1⟩ : ∃ X, w.alloc (.cells #[.string s, .bool b, .slice A0 n0 c0, .slice A1 n1 c1, .slice A2 n2 c2, .slice A3 n3 c3, .slice A4 n4 c4, .slice A5 n5 c5, .slice A6 n6 c6, .slice A7 n7 c7, .slice A8 n8 c8] 38) = X := ⟨_, rfl⟩
 obtain ⟨g, hg⟩ : ∃ g, w.heap.size = g := ⟨_, rfl⟩
 have hc : Cells w1 g #[.string s, .bool b, .slice A0 n0 c0, .slice A1 n1 c1, .slice A2 n2 c2, .slice A3 n3 c3, .slice A4 n4 c4, .slice A5 n5 c5, .slice A6 n6 c6, .slice A7 n7 c7, .slice A8 n8 c8].toList := by rw [← hw1, ← hg]; exact Cells.new w #[.string s, .bool b, .slice A0 n0 c0, .slice A1 n1 c1, .slice A2 n2 c2, .slice A3 n3 c3, .slice A4 n4 c4, .slice A5 n5 c5, .slice A6 n6 c6, .slice A7 n7 c7, .slice A8 n8 c8].toList _
 have hb1 : Below w.heap.size w w1 := by rw [← hw1]; exact bl_one _
 have HB := Lib.hid hb1
 have EQ : Hid (∀ W, Below w1.heap.size w1 W → W.cell? ⟨g, 0, none⟩ = some (.string s) ∧ W.cell? ⟨g, 1, none⟩ = some (.bool b) ∧ W.cell? ⟨g, 2, none⟩ = some (.slice A0 n0 c0) ∧ W.cell? ⟨g, 3, none⟩ = some (.slice A1 n1 c1) ∧ W.cell? ⟨g, 4, none⟩ = some (.slice A2 n2 c2) ∧ W.cell? ⟨g, 5, none⟩ = some (.slice A3 n3 c3) ∧ W.cell? ⟨g, 6, none⟩ = some (.slice A4 n4 c4) ∧ W.cell? ⟨g, 7, none⟩ = some (.slice A5 n5 c5) ∧ W.cell? ⟨g, 8, none⟩ = some (.slice A6 n6 c6) ∧ W.cell? ⟨g, 9, none⟩ = some (.slice A7 n7 c7) ∧ W.cell? ⟨g, 10, none⟩ = some (.slice A8 n8 c8)) := Lib.hid fun W hW => ⟨(hc.on hW).at_ 0 _ rfl, (hc.on hW).at_ 1 _ rfl, (hc.on hW).at_ 2 _ rfl, (hc.on hW).at_ 3 _ rfl, (hc.on hW).at_ 4 _ rfl, (hc.on hW).at_ 5 _ rfl, (hc.on hW).at_ 6 _ rfl, (hc.on hW).at_ 7 _ rfl, (hc.on hW).at_ 8 _ rfl, (hc.on hW).at_ 9 _ rfl, (hc.on hW).at_ 10 _ rfl⟩
 have HF : Hid (∀ W, Below w1.heap.size w1 W → FnW W W.heap.size s b A0 n0 c0 A1 n1 c1 A2 n2 c2 A3 n3 c3 A4 n4 c4 A5 n5 c5 A6 n6 c6 A7 n7 c7 A8 n8 c8 x) := Lib.hid fun W hW => by
  have h2 : Below w.heap.size w W := hb1.trans (hW.mono hb1.size)
  exact (h.keep h2).more h2.size
 obtain ⟨q0, q1, q2, q3, q4, q5, q6, q7, q8, q9, q10⟩ := EQ.out w1 (Below.refl _ _)
 have hf1 := HF.out w1 (Below.refl _ _)
 obtain ⟨s4, s5, s6, s7, s8, s0⟩ := h.sm
 have cM := Lib.hid (nmay_any s hf1.nm w1)
 have cT0 := Lib.hid (tright_any A0 n0 c0 _ _ 4 w1 hf1.r0 (by omega))
 have cT1 := Lib.hid (tright_any A1 n1 c1 _ _ 8 w1 hf1.r1 (by omega))
 have cT2 := Lib.hid (tright_any A2 n2 c2 _ _ 4 w1 hf1.r2 (by omega))
 have cT3 := Lib.hid (tright_any A3 n3 c3 _ _ 256 w1 hf1.r3 (by omega))
 have HL : Hid (x.code.length = n4 ∧ x.lines.length = n5) := Lib.hid ⟨h.r4.1, h.r5.1⟩
 have cL : Hid (∀ W, Below w1.heap.size w1 W → Calls Tryz.prog 115 #[.slice A5 n5 c5] W (IsB W)) := Lib.hid fun W hW => lright_any A5 n5 c5 _ _ W (HF.out W hW).r5 (by omega)
 have cX : Hid (∀ m : Nat, m ≤ 300 → ∀ W, Below w1.heap.size w1 W → Calls Tryz.prog 116 #[.agg #[.string s, .bool b, .slice A0 n0 c0, .slice A1 n1 c1, .slice A2 n2 c2, .slice A3 n3 c3, .slice A4 n4 c4, .slice A5 n5 c5, .slice A6 n6 c6, .slice A7 n7 c7, .slice A8 n8 c8], .int .i64 (m : Int)] W (IsTb x W)) := Lib.hid fun m hm W hW => tables_any s b A0 n0 c0 A1 n1 c1 A2 n2 c2 A3 n3 c3 A4 n4 c4 A5 n5 c5 A6 n6 c6 A7 n7 c7 A8 n8 c8 x (m : Int) W (HF.out W hW) (by omega) (by omega)
 have HS0 : Hid (n1 + n2 + n3 + n0 ≤ 300) := Lib.hid s0
 have k0 : (n0 : Int) ≤ 300 := by omega
 have k1 : (n1 : Int) ≤ 300 := by omega
 have k2 : (n2 : Int) ≤ 300 := by omega
 have k3 : (n3 : Int) ≤ 300 := by omega
 have k4 : (n4 : Int) ≤ 150 := by omega
 have k5 : (n5 : Int) ≤ 150 := by omega
 have p0 : (0 : Int) ≤ (n0 : Int) := by omega
 have p1 : (0 : Int) ≤ (n1 : Int) := by omega
 have p2 : (0 : Int) ≤ (n2 : Int) := by omega
 have p3 : (0 : Int) ≤ (n3 : Int) := by omega
 have p4 : (0 : Int) ≤ (n4 : Int) := by omega
 have p5 : (0 : Int) ≤ (n5 : Int) := by omega
 clear hc h hb1 hf1
 go_enter Tryz.func91, Tryz.ntmps91
 go_wp2_with fail
 refine cM.out.mono ?_
 rintro e w2 ⟨⟨r, rfl⟩, rfl⟩
 cases r with
 | false =>
  go_wp2_with fail
  go_ret
  exact ⟨_, rfl, (fun h => by cases h), HB.out⟩
 | true =>
  go_wp2_with fail
  refine cT0.out.mono ?_
  rintro e w2 ⟨⟨r, rfl⟩, rfl⟩
  cases r with
  | false =>
   go_wp2_with fail
   go_ret
   exact ⟨_, rfl, (fun h => by cases h), HB.out⟩
  | true =>
   go_wp2_with fail
   refine cT1.out.mono ?_
   rintro e w2 ⟨⟨r, rfl⟩, rfl⟩
   cases r with
   | false =>
    go_wp2_with fail
    go_ret
    exact ⟨_, rfl, (fun h => by cases h), HB.out⟩
   | true =>
    go_wp2_with fail
    refine cT2.out.mono ?_
    rintro e w2 ⟨⟨r, rfl⟩, rfl⟩
    cases r with
    | false =>
     go_wp2_with fail
     go_ret
     exact ⟨_, rfl, (fun h => by cases h), HB.out⟩
    | true =>
     go_wp2_with fail
     refine cT3.out.mono ?_
     rintro e w2 ⟨⟨r, rfl⟩, rfl⟩
     cases r with
     | false =>
      go_wp2_with fail
      go_ret
      exact ⟨_, rfl, (fun h => by cases h), HB.out⟩
     | true =>
      by_cases m2 : n0 > 0
      ·have v2 : decide (n0 > 0) = true := by simpa using m2
       cases b with
       | false =>
        go_wp2_with fail
        go_ret
        exact ⟨_, rfl, (fun h => by cases h), HB.out⟩
       | true =>
        by_cases m0 : n1 + n2 + n3 > 256
        ·have v0 : decide ((n1 : Int) + (n2 : Int) + (n3 : Int) > 256) = true := by rw [decide_eq_true_eq]; omega
         clear m0
         go_wp2_with fail
         go_ret
         exact ⟨_, rfl, (fun h => by cases h), HB.out⟩
        have v0 : decide ((n1 : Int) + (n2 : Int) + (n3 : Int) > 256) = false := by rw [decide_eq_false_iff_not]; omega
        by_cases m1 : n4 < 1
        ·have v1 : decide (n4 < 1) = true := by simpa using m1
         go_wp2_with fail
         go_ret
         exact ⟨_, rfl, (fun h => by cases h), HB.out⟩
        have v1 : decide (n4 < 1) = false := by simpa using m1
        have HN4 : Hid (1 ≤ n4) := Lib.hid (by omega)
        clear m0
        obtain ⟨q0, q1, q2, q3, q4, q5, q6, q7, q8, q9, q10⟩ := EQ.out w1 (Below.refl _ _)
        go_wp2_with fail
        clear q0 q1 q2 q3 q4 q5 q6 q7 q8 q9 q10
        go_loopw [4] (fun iv wr => ∃ (k : Nat), iv = .int .i64 k ∧ k ≤ n4 ∧ Hid ((∀ z ∈ x.code.take k, instrOk z) ∧ Below w1.heap.size w1 wr)) (fun iv _ => n4 - (intOf iv).toNat)
        case atStart => exact ⟨0, rfl, Nat.zero_le _, Lib.hid ⟨by simp, Below.refl _ _⟩⟩
        case round =>
         obtain ⟨k, rfl, hk, HK⟩ := hrel
         have hk0 : (0 : Int) ≤ (k : Int) := by omega
         have hkb : (k : Int) ≤ 150 := by omega
         have HBr := Lib.hid HK.out.2
         have HWr : Hid (Below w.heap.size w wr) := Lib.hid (HB.out.trans (HBr.out.mono HB.out.size))
         obtain ⟨q0, q1, q2, q3, q4, q5, q6, q7, q8, q9, q10⟩ := EQ.out wr HBr.out
         by_cases hlt : k < n4
         ·have hkn : (k : Int) < (n4 : Int) := by omega
          obtain ⟨b2, off, v, rfl, hb, hv, y0, y1⟩ := slc_at (HF.out wr HBr.out).r4 hlt
          obtain ⟨vo, va⟩ := v
          dsimp only at y0 y1
          have HT : Hid (instrOk ⟨vo, va⟩ → ∀ z ∈ x.code.take (k + 1), instrOk z) := Lib.hid (fun hv' z hz => by
           rw [← take_snoc' x.code k _ hv] at hz
           rcases List.mem_append.1 hz with hz | hz
           ·exact HK.out.1 z hz
           ·rw [List.mem_singleton] at hz; subst hz; exact hv')
          have cI := Lib.hid (iright_any vo va wr)
          clear hb hv HK
          go_wp2_with fail
          refine cI.out.mono ?_
          rintro e w3 ⟨r3, rfl, hr3, hb3⟩
          have HR3 := Lib.hid hr3
          have HB3 : Hid (Below w1.heap.size w1 w3) := Lib.hid (HBr.out.trans (hb3.mono HBr.out.size))
          clear hr3 hb3 cI
          cases r3 with
          | false =>
           go_wp2_with fail
           go_ret
           exact ⟨_, rfl, (fun h => by cases h), HB.out.trans (HB3.out.mono HB.out.size)⟩
          | true =>
           have HT2 := Lib.hid (HT.out (HR3.out (by first | trivial | rfl)))
           go_wp2_with fail
           go_roundw
           case rel => exact ⟨k + 1, by go_num, by omega, Lib.hid ⟨HT2.out, HB3.out⟩⟩
           case measure => simp [intOf]; omega
         ·obtain rfl : k = n4 := by omega
          have HIN : Hid (∀ z ∈ x.code, instrOk z) := Lib.hid (fun z hz => HK.out.1 z (by rw [List.take_of_length_le (by have := HL.out; omega)]; exact hz))
          clear HK
          by_cases e5 : n5 = k
          ·have t5 : ((n5 : Int) != (k : Int)) = false := by simp; omega
           have E5 := Lib.hid e5
           have cK := Lib.hid (cL.out wr HBr.out)
           have cY := Lib.hid (cX.out (n1 + n2 + n3) (by have := HS0.out; omega) wr HBr.out)
           simp only [Int.natCast_add] at cY
           clear e5
           go_wp2_with fail
           refine cK.out.mono ?_
           rintro e w3 ⟨⟨r, rfl⟩, rfl⟩
           cases r with
           | false =>
            go_wp2_with fail
            go_ret
            exact ⟨_, rfl, (fun h => by cases h), HWr.out⟩
           | true =>
            go_wp2_with fail
            refine cY.out.mono ?_
            rintro e w4 ⟨r4, rfl, hr4, hb4⟩
            have HR4 := Lib.hid hr4
            have HW4 : Hid (Below w.heap.size w w4) := Lib.hid (HWr.out.trans (hb4.mono HWr.out.size))
            clear hr4 hb4
            cases r4 with
            | false =>
             go_wp2_with fail
             go_ret
             exact ⟨_, rfl, (fun h => by cases h), HW4.out⟩
            | true =>
             go_wp2_with fail
             go_ret
             exact ⟨_, rfl, (fun _ => ⟨by have := HL.out; have := HN4.out; omega, HIN.out, by have := HL.out; have := E5.out; omega, HR4.out (by first | trivial | rfl)⟩), HW4.out⟩
          ·have t5 : ((n5 : Int) != (k : Int)) = true := by simp; omega
           clear e5
           go_wp2_with fail
           go_ret
           exact ⟨_, rfl, (fun h => by cases h), HWr.out⟩
      ·have v2 : decide (n0 > 0) = false := by simpa using m2
       by_cases m0 : n1 + n2 + n3 > 256
       ·have v0 : decide ((n1 : Int) + (n2 : Int) + (n3 : Int) > 256) = true := by rw [decide_eq_true_eq]; omega
        clear m0
        go_wp2_with fail
        go_ret
        exact ⟨_, rfl, (fun h => by cases h), HB.out⟩
       have v0 : decide ((n1 : Int) + (n2 : Int) + (n3 : Int) > 256) = false := by rw [decide_eq_false_iff_not]; omega
       by_cases m1 : n4 < 1
       ·have v1 : decide (n4 < 1) = true := by simpa using m1
        go_wp2_with fail
        go_ret
        exact ⟨_, rfl, (fun h => by cases h), HB.out⟩
       have v1 : decide (n4 < 1) = false := by simpa using m1
       have HN4 : Hid (1 ≤ n4) := Lib.hid (by omega)
       clear m0
       obtain ⟨q0, q1, q2, q3, q4, q5, q6, q7, q8, q9, q10⟩ := EQ.out w1 (Below.refl _ _)
       go_wp2_with fail
       clear q0 q1 q2 q3 q4 q5 q6 q7 q8 q9 q10
       go_loopw [4] (fun iv wr => ∃ (k : Nat), iv = .int .i64 k ∧ k ≤ n4 ∧ Hid ((∀ z ∈ x.code.take k, instrOk z) ∧ Below w1.heap.size w1 wr)) (fun iv _ => n4 - (intOf iv).toNat)
       case atStart => exact ⟨0, rfl, Nat.zero_le _, Lib.hid ⟨by simp, Below.refl _ _⟩⟩
       case round =>
        obtain ⟨k, rfl, hk, HK⟩ := hrel
        have hk0 : (0 : Int) ≤ (k : Int) := by omega
        have hkb : (k : Int) ≤ 150 := by omega
        have HBr := Lib.hid HK.out.2
        have HWr : Hid (Below w.heap.size w wr) := Lib.hid (HB.out.trans (HBr.out.mono HB.out.size))
        obtain ⟨q0, q1, q2, q3, q4, q5, q6, q7, q8, q9, q10⟩ := EQ.out wr HBr.out
        by_cases hlt : k < n4
        ·have hkn : (k : Int) < (n4 : Int) := by omega
         obtain ⟨b2, off, v, rfl, hb, hv, y0, y1⟩ := slc_at (HF.out wr HBr.out).r4 hlt
         obtain ⟨vo, va⟩ := v
         dsimp only at y0 y1
         have HT : Hid (instrOk ⟨vo, va⟩ → ∀ z ∈ x.code.take (k + 1), instrOk z) := Lib.hid (fun hv' z hz => by
          rw [← take_snoc' x.code k _ hv] at hz
          rcases List.mem_append.1 hz with hz | hz
          ·exact HK.out.1 z hz
          ·rw [List.mem_singleton] at hz; subst hz; exact hv')
         have cI := Lib.hid (iright_any vo va wr)
         clear hb hv HK
         go_wp2_with fail
         refine cI.out.mono ?_
         rintro e w3 ⟨r3, rfl, hr3, hb3⟩
         have HR3 := Lib.hid hr3
         have HB3 : Hid (Below w1.heap.size w1 w3) := Lib.hid (HBr.out.trans (hb3.mono HBr.out.size))
         clear hr3 hb3 cI
         cases r3 with
         | false =>
          go_wp2_with fail
          go_ret
          exact ⟨_, rfl, (fun h => by cases h), HB.out.trans (HB3.out.mono HB.out.size)⟩
         | true =>
          have HT2 := Lib.hid (HT.out (HR3.out (by first | trivial | rfl)))
          go_wp2_with fail
          go_roundw
          case rel => exact ⟨k + 1, by go_num, by omega, Lib.hid ⟨HT2.out, HB3.out⟩⟩
          case measure => simp [intOf]; omega
        ·obtain rfl : k = n4 := by omega
         have HIN : Hid (∀ z ∈ x.code, instrOk z) := Lib.hid (fun z hz => HK.out.1 z (by rw [List.take_of_length_le (by have := HL.out; omega)]; exact hz))
         clear HK
         by_cases e5 : n5 = k
         ·have t5 : ((n5 : Int) != (k : Int)) = false := by simp; omega
          have E5 := Lib.hid e5
          have cK := Lib.hid (cL.out wr HBr.out)
          have cY := Lib.hid (cX.out (n1 + n2 + n3) (by have := HS0.out; omega) wr HBr.out)
          simp only [Int.natCast_add] at cY
          clear e5
          go_wp2_with fail
          refine cK.out.mono ?_
          rintro e w3 ⟨⟨r, rfl⟩, rfl⟩
          cases r with
          | false =>
           go_wp2_with fail
           go_ret
           exact ⟨_, rfl, (fun h => by cases h), HWr.out⟩
          | true =>
           go_wp2_with fail
           refine cY.out.mono ?_
           rintro e w4 ⟨r4, rfl, hr4, hb4⟩
           have HR4 := Lib.hid hr4
           have HW4 : Hid (Below w.heap.size w w4) := Lib.hid (HWr.out.trans (hb4.mono HWr.out.size))
           clear hr4 hb4
           cases r4 with
           | false =>
            go_wp2_with fail
            go_ret
            exact ⟨_, rfl, (fun h => by cases h), HW4.out⟩
           | true =>
            go_wp2_with fail
            go_ret
            exact ⟨_, rfl, (fun _ => ⟨by have := HL.out; have := HN4.out; omega, HIN.out, by have := HL.out; have := E5.out; omega, HR4.out (by first | trivial | rfl)⟩), HW4.out⟩
         ·have t5 : ((n5 : Int) != (k : Int)) = true := by simp; omega
          clear e5
          go_wp2_with fail
          go_ret
          exact ⟨_, rfl, (fun h => by cases h), HWr.out⟩
end Go.Proofs.YtobmjnmcjddhcaaGreat
