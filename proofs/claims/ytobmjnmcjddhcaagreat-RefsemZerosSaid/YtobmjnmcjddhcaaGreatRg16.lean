import Derived.Test.YtobmjnmcjddhcaaGreatRg14
set_option linter.unusedSimpArgs false
set_option linter.unusedVariables false
set_option maxRecDepth 100000
set_option maxHeartbeats 32000000
namespace Go.Proofs.YtobmjnmcjddhcaaGreat
open Go.RowKit
def IsBX (P : Prop) (w : World) (e : Ending) (w' : World) : Prop := (∃ b : Bool, e = .returned (.bool b) ∧ (b = true → P)) ∧ w = w'
theorem tmayx_any (t : Int) (w : World) : Calls Tryz.prog 142 #[.int .i64 t] w (IsBX (t = 1 ∨ t = 2) w) := by
 by_cases h1 : t = 1
 ·subst h1
  go_in
  go_wp2_with fail
  go_ret
  exact ⟨⟨_, rfl, fun _ => .inl (by first | rfl | trivial)⟩, rfl⟩
 ·have e1 : (t == 1) = false := by simpa using h1
  go_in
  go_wp2_with fail
  go_ret
  exact ⟨⟨_, rfl, fun h => .inr (by simpa using h)⟩, rfl⟩
theorem trightx_any (A : Option Addr) (n c B : Nat) (xs : List Int) (m : Int) (w : World) (h : SlI w B A n c xs) (hn : n ≤ 100000000000000) :
  Calls Tryz.prog 113 #[.slice A n c, .int .i64 m] w (IsBX ((∀ t ∈ xs, t = 1 ∨ t = 2) ∧ (n : Int) ≤ m) w) := by
 have H := Hd h
 clear h
 go_in
 go_wp2_with fail
 go_loop [5] (fun i => ∃ k : Nat, i = .int .i64 k ∧ k ≤ n ∧ Hid (∀ t ∈ xs.take k, t = 1 ∨ t = 2)) (fun i => n - (intOf i).toNat)
 case atStart => exact ⟨0, rfl, Nat.zero_le _, Hd (by simp)⟩
 case round =>
  obtain ⟨k, rfl, hk, HK⟩ := hrel
  have hk0 : (0 : Int) ≤ (k : Int) := by omega
  have hkb : (k : Int) ≤ 100000000000000 := by omega
  by_cases hlt : k < n
  ·have hkn : (k : Int) < (n : Int) := by omega
   obtain ⟨b, off, v, rfl, hb, hv, hc⟩ := SlR.cell1 (f := Value.int .i64) H.out hlt
   have cT := Hd (tmayx_any v w)
   have HV := Hd hv
   clear hb hv
   go_wp2_with fail
   refine cT.out.mono ?_
   rintro e w2 ⟨⟨r, rfl, hr⟩, rfl⟩
   have HR := Hd hr
   clear hr
   cases r with
   | true =>
    go_wp2_with fail
    go_round
    case rel => exact ⟨k + 1, by go_num, by omega, Hd fun t ht => by
     rw [← take_snoc' xs k v HV.out] at ht
     rcases List.mem_append.1 ht with ht | ht
     ·exact HK.out t ht
     ·rw [List.mem_singleton] at ht; subst ht; exact HR.out (by trivial)⟩
    case measure => simp [intOf]; omega
   | false =>
    go_wp2_with fail
    go_ret
    exact ⟨⟨_, rfl, fun h => by cases h⟩, rfl⟩
  ·obtain rfl : k = n := by omega
   go_wp2_with fail
   go_ret
   exact ⟨⟨_, rfl, fun h => ⟨by have := HK.out; rwa [List.take_of_length_le (by have := H.out.1; omega)] at this, by simpa using h⟩⟩, rfl⟩
structure MayF (x : DFunc) : Prop where
 outer : ∀ t ∈ x.outer, t = 1 ∨ t = 2
 params : ∀ t ∈ x.params, t = 1 ∨ t = 2
 results : ∀ t ∈ x.results, t = 1 ∨ t = 2
 locals : ∀ t ∈ x.locals, t = 1 ∨ t = 2
 np : x.params.length ≤ 8
 nr : x.results.length ≤ 4
def canMay (x : DFunc) : Prop := canOk x ∧ MayF x
def IsCanX (x : DFunc) (w : World) (e : Ending) (w' : World) : Prop := ∃ r : Int, e = .returned (.int .i64 r) ∧ (r = 0 → canOk x) ∧ (r = 0 → MayF x) ∧ Below w.heap.size w w'
theorem canx_any (s : ByteArray) (b : Bool) (A0 : Option Addr) (n0 c0 : Nat) (A1 : Option Addr) (n1 c1 : Nat) (A2 : Option Addr) (n2 c2 : Nat) (A3 : Option Addr) (n3 c3 : Nat) (A4 : Option Addr) (n4 c4 : Nat) (A5 : Option Addr) (n5 c5 : Nat) (A6 : Option Addr) (n6 c6 : Nat) (A7 : Option Addr) (n7 c7 : Nat) (A8 : Option Addr) (n8 c8 : Nat) (x : DFunc) (w : World) (h : FnW w w.heap.size s b A0 n0 c0 A1 n1 c1 A2 n2 c2 A3 n3 c3 A4 n4 c4 A5 n5 c5 A6 n6 c6 A7 n7 c7 A8 n8 c8 x) :
  Calls Tryz.prog 91 #[.agg #[.string s, .bool b, .slice A0 n0 c0, .slice A1 n1 c1, .slice A2 n2 c2, .slice A3 n3 c3, .slice A4 n4 c4, .slice A5 n5 c5, .slice A6 n6 c6, .slice A7 n7 c7, .slice A8 n8 c8]] w (IsCanX x w) := by
 obtain ⟨w1, hw1⟩ : ∃ X, w.alloc (.cells #[.string s, .bool b, .slice A0 n0 c0, .slice A1 n1 c1, .slice A2 n2 c2, .slice A3 n3 c3, .slice A4 n4 c4, .slice A5 n5 c5, .slice A6 n6 c6, .slice A7 n7 c7, .slice A8 n8 c8] 38) = X := ⟨_, rfl⟩
 obtain ⟨g, hg⟩ : ∃ g, w.heap.size = g := ⟨_, rfl⟩
 have hc : Cells w1 g #[.string s, .bool b, .slice A0 n0 c0, .slice A1 n1 c1, .slice A2 n2 c2, .slice A3 n3 c3, .slice A4 n4 c4, .slice A5 n5 c5, .slice A6 n6 c6, .slice A7 n7 c7, .slice A8 n8 c8].toList := by rw [← hw1, ← hg]; exact Cells.new w #[.string s, .bool b, .slice A0 n0 c0, .slice A1 n1 c1, .slice A2 n2 c2, .slice A3 n3 c3, .slice A4 n4 c4, .slice A5 n5 c5, .slice A6 n6 c6, .slice A7 n7 c7, .slice A8 n8 c8].toList _
 have hb1 : Below w.heap.size w w1 := by rw [← hw1]; exact bl_one _
 have HB := Hd hb1
 have EQ : Hid (∀ W, Below w1.heap.size w1 W → W.cell? ⟨g, 0, none⟩ = some (.string s) ∧ W.cell? ⟨g, 1, none⟩ = some (.bool b) ∧ W.cell? ⟨g, 2, none⟩ = some (.slice A0 n0 c0) ∧ W.cell? ⟨g, 3, none⟩ = some (.slice A1 n1 c1) ∧ W.cell? ⟨g, 4, none⟩ = some (.slice A2 n2 c2) ∧ W.cell? ⟨g, 5, none⟩ = some (.slice A3 n3 c3) ∧ W.cell? ⟨g, 6, none⟩ = some (.slice A4 n4 c4) ∧ W.cell? ⟨g, 7, none⟩ = some (.slice A5 n5 c5) ∧ W.cell? ⟨g, 8, none⟩ = some (.slice A6 n6 c6) ∧ W.cell? ⟨g, 9, none⟩ = some (.slice A7 n7 c7) ∧ W.cell? ⟨g, 10, none⟩ = some (.slice A8 n8 c8)) := Hd fun W hW => ⟨(hc.on hW).at_ 0 _ rfl, (hc.on hW).at_ 1 _ rfl, (hc.on hW).at_ 2 _ rfl, (hc.on hW).at_ 3 _ rfl, (hc.on hW).at_ 4 _ rfl, (hc.on hW).at_ 5 _ rfl, (hc.on hW).at_ 6 _ rfl, (hc.on hW).at_ 7 _ rfl, (hc.on hW).at_ 8 _ rfl, (hc.on hW).at_ 9 _ rfl, (hc.on hW).at_ 10 _ rfl⟩
 have HF : Hid (∀ W, Below w1.heap.size w1 W → FnW W W.heap.size s b A0 n0 c0 A1 n1 c1 A2 n2 c2 A3 n3 c3 A4 n4 c4 A5 n5 c5 A6 n6 c6 A7 n7 c7 A8 n8 c8 x) := Hd fun W hW => by
  have h2 : Below w.heap.size w W := hb1.trans (hW.mono hb1.size)
  exact (h.keep h2).more h2.size
 obtain ⟨q0, q1, q2, q3, q4, q5, q6, q7, q8, q9, q10⟩ := EQ.out w1 (Below.refl _ _)
 have hf1 := HF.out w1 (Below.refl _ _)
 obtain ⟨s4, s5, s6, s7, s8, s0⟩ := h.sm
 have HFL : Hid (x.params.length = n1 ∧ x.results.length = n2) := Hd ⟨hf1.r1.1, hf1.r2.1⟩
 have cM := Hd (nmay_any s hf1.nm w1)
 have cT0 := Hd (trightx_any A0 n0 c0 _ _ 4 w1 hf1.r0 (by omega))
 have cT1 := Hd (trightx_any A1 n1 c1 _ _ 8 w1 hf1.r1 (by omega))
 have cT2 := Hd (trightx_any A2 n2 c2 _ _ 4 w1 hf1.r2 (by omega))
 have cT3 := Hd (trightx_any A3 n3 c3 _ _ 256 w1 hf1.r3 (by omega))
 have HL : Hid (x.code.length = n4 ∧ x.lines.length = n5) := Hd ⟨h.r4.1, h.r5.1⟩
 have cL : Hid (∀ W, Below w1.heap.size w1 W → Calls Tryz.prog 115 #[.slice A5 n5 c5] W (IsB W)) := Hd fun W hW => lright_any A5 n5 c5 _ _ W (HF.out W hW).r5 (by omega)
 have cX : Hid (∀ m : Nat, m ≤ 300 → ∀ W, Below w1.heap.size w1 W → Calls Tryz.prog 116 #[.agg #[.string s, .bool b, .slice A0 n0 c0, .slice A1 n1 c1, .slice A2 n2 c2, .slice A3 n3 c3, .slice A4 n4 c4, .slice A5 n5 c5, .slice A6 n6 c6, .slice A7 n7 c7, .slice A8 n8 c8], .int .i64 (m : Int)] W (IsTb x W)) := Hd fun m hm W hW => tables_any s b A0 n0 c0 A1 n1 c1 A2 n2 c2 A3 n3 c3 A4 n4 c4 A5 n5 c5 A6 n6 c6 A7 n7 c7 A8 n8 c8 x (m : Int) W (HF.out W hW) (by omega) (by omega)
 have HS0 : Hid (n1 + n2 + n3 + n0 ≤ 300) := Hd s0
 have k0 : (n0 : Int) ≤ 300 := by omega
 have k1 : (n1 : Int) ≤ 300 := by omega
 have k2 : (n2 : Int) ≤ 300 := by omega
 have k3 : (n3 : Int) ≤ 300 := by omega
 have k4 : (n4 : Int) ≤ 150 := by omega
 have k5 : (n5 : Int) ≤ 150 := by omega
 have p0 : (0 : Int) ≤ (n0 : Int) := by omega
 have p1 : (0 : Int) ≤ (n1 : Int) := by omega
 have p2 : (0 : Int) ≤ (n2 : Int) := by omega
 have p3 : (0 : Int) ≤ (n3 : Int) := by omega
 have p4 : (0 : Int) ≤ (n4 : Int) := by omega
 have p5 : (0 : Int) ≤ (n5 : Int) := by omega
 clear hc h hb1 hf1
 go_in
 go_wp2_with fail
 refine cM.out.mono ?_
 rintro e w2 ⟨⟨r, rfl⟩, rfl⟩
 cases r with
 | false =>
  go_wp2_with fail
  go_ret
  exact ⟨_, rfl, (fun h => by cases h), (fun h => by cases h), HB.out⟩
 | true =>
  go_wp2_with fail
  refine cT0.out.mono ?_
  rintro e w2 ⟨⟨r, rfl, ht0⟩, rfl⟩
  have HT0 := Hd ht0
  clear ht0
  cases r with
  | false =>
   go_wp2_with fail
   go_ret
   exact ⟨_, rfl, (fun h => by cases h), (fun h => by cases h), HB.out⟩
  | true =>
   go_wp2_with fail
   refine cT1.out.mono ?_
   rintro e w2 ⟨⟨r, rfl, ht1⟩, rfl⟩
   have HT1 := Hd ht1
   clear ht1
   cases r with
   | false =>
    go_wp2_with fail
    go_ret
    exact ⟨_, rfl, (fun h => by cases h), (fun h => by cases h), HB.out⟩
   | true =>
    go_wp2_with fail
    refine cT2.out.mono ?_
    rintro e w2 ⟨⟨r, rfl, ht2⟩, rfl⟩
    have HT2 := Hd ht2
    clear ht2
    cases r with
    | false =>
     go_wp2_with fail
     go_ret
     exact ⟨_, rfl, (fun h => by cases h), (fun h => by cases h), HB.out⟩
    | true =>
     go_wp2_with fail
     refine cT3.out.mono ?_
     rintro e w2 ⟨⟨r, rfl, ht3⟩, rfl⟩
     have HT3 := Hd ht3
     clear ht3
     cases r with
     | false =>
      go_wp2_with fail
      go_ret
      exact ⟨_, rfl, (fun h => by cases h), (fun h => by cases h), HB.out⟩
     | true =>
      have HMF : Hid (MayF x) := Hd ⟨(HT0.out (by trivial)).1, (HT1.out (by trivial)).1, (HT2.out (by trivial)).1, (HT3.out (by trivial)).1, by have := (HT1.out (by trivial)).2; have := HFL.out.1; omega, by have := (HT2.out (by trivial)).2; have := HFL.out.2; omega⟩
      clear HT0 HT1 HT2 HT3
      by_cases m2 : n0 > 0
      ·have v2 : decide (n0 > 0) = true := by simpa using m2
       cases b with
       | false =>
        go_wp2_with fail
        go_ret
        exact ⟨_, rfl, (fun h => by cases h), (fun h => by cases h), HB.out⟩
       | true =>
        by_cases m0 : n1 + n2 + n3 > 256
        ·have v0 : decide ((n1 : Int) + (n2 : Int) + (n3 : Int) > 256) = true := dcT (by omega)
         clear m0
         go_wp2_with fail
         go_ret
         exact ⟨_, rfl, (fun h => by cases h), (fun h => by cases h), HB.out⟩
        have v0 : decide ((n1 : Int) + (n2 : Int) + (n3 : Int) > 256) = false := dcF (by omega)
        by_cases m1 : n4 < 1
        ·have v1 : decide (n4 < 1) = true := by simpa using m1
         go_wp2_with fail
         go_ret
         exact ⟨_, rfl, (fun h => by cases h), (fun h => by cases h), HB.out⟩
        have v1 : decide (n4 < 1) = false := by simpa using m1
        have HN4 : Hid (1 ≤ n4) := Hd (by omega)
        clear m0
        obtain ⟨q0, q1, q2, q3, q4, q5, q6, q7, q8, q9, q10⟩ := EQ.out w1 (Below.refl _ _)
        go_wp2_with fail
        clear q0 q1 q2 q3 q4 q5 q6 q7 q8 q9 q10
        go_loopw [4] (fun iv wr => ∃ (k : Nat), iv = .int .i64 k ∧ k ≤ n4 ∧ Hid ((∀ z ∈ x.code.take k, instrOk z) ∧ Below w1.heap.size w1 wr)) (fun iv _ => n4 - (intOf iv).toNat)
        case atStart => exact ⟨0, rfl, Nat.zero_le _, Hd ⟨by simp, Below.refl _ _⟩⟩
        case round =>
         obtain ⟨k, rfl, hk, HK⟩ := hrel
         have hk0 : (0 : Int) ≤ (k : Int) := by omega
         have hkb : (k : Int) ≤ 150 := by omega
         have HBr := Hd HK.out.2
         have HWr : Hid (Below w.heap.size w wr) := Hd (HB.out.trans (HBr.out.mono HB.out.size))
         obtain ⟨q0, q1, q2, q3, q4, q5, q6, q7, q8, q9, q10⟩ := EQ.out wr HBr.out
         by_cases hlt : k < n4
         ·have hkn : (k : Int) < (n4 : Int) := by omega
          obtain ⟨b2, off, v, rfl, hb, hv, y0, y1⟩ := slc_at (HF.out wr HBr.out).r4 hlt
          obtain ⟨vo, va⟩ := v
          dsimp only at y0 y1
          have HT : Hid (instrOk ⟨vo, va⟩ → ∀ z ∈ x.code.take (k + 1), instrOk z) := Hd (fun hv' z hz => by
           rw [← take_snoc' x.code k _ hv] at hz
           rcases List.mem_append.1 hz with hz | hz
           ·exact HK.out.1 z hz
           ·rw [List.mem_singleton] at hz; subst hz; exact hv')
          have cI := Hd (iright_any vo va wr)
          clear hb hv HK
          go_wp2_with fail
          refine cI.out.mono ?_
          rintro e w3 ⟨r3, rfl, hr3, hb3⟩
          have HR3 := Hd hr3
          have HB3 : Hid (Below w1.heap.size w1 w3) := Hd (HBr.out.trans (hb3.mono HBr.out.size))
          clear hr3 hb3 cI
          cases r3 with
          | false =>
           go_wp2_with fail
           go_ret
           exact ⟨_, rfl, (fun h => by cases h), (fun h => by cases h), HB.out.trans (HB3.out.mono HB.out.size)⟩
          | true =>
           have HT2 := Hd (HT.out (HR3.out (by first | trivial | rfl)))
           go_wp2_with fail
           go_roundw
           case rel => exact ⟨k + 1, by go_num, by omega, Hd ⟨HT2.out, HB3.out⟩⟩
           case measure => simp [intOf]; omega
         ·obtain rfl : k = n4 := by omega
          have HIN : Hid (∀ z ∈ x.code, instrOk z) := Hd (fun z hz => HK.out.1 z (by rw [List.take_of_length_le (by have := HL.out; omega)]; exact hz))
          clear HK
          by_cases e5 : n5 = k
          ·have t5 : ((n5 : Int) != (k : Int)) = false := by simp; omega
           have E5 := Hd e5
           have cK := Hd (cL.out wr HBr.out)
           have cY := Hd (cX.out (n1 + n2 + n3) (by have := HS0.out; omega) wr HBr.out)
           simp only [Int.natCast_add] at cY
           clear e5
           go_wp2_with fail
           refine cK.out.mono ?_
           rintro e w3 ⟨⟨r, rfl⟩, rfl⟩
           cases r with
           | false =>
            go_wp2_with fail
            go_ret
            exact ⟨_, rfl, (fun h => by cases h), (fun h => by cases h), HWr.out⟩
           | true =>
            go_wp2_with fail
            refine cY.out.mono ?_
            rintro e w4 ⟨r4, rfl, hr4, hb4⟩
            have HR4 := Hd hr4
            have HW4 : Hid (Below w.heap.size w w4) := Hd (HWr.out.trans (hb4.mono HWr.out.size))
            clear hr4 hb4
            cases r4 with
            | false =>
             go_wp2_with fail
             go_ret
             exact ⟨_, rfl, (fun h => by cases h), (fun h => by cases h), HW4.out⟩
            | true =>
             go_wp2_with fail
             go_ret
             exact ⟨_, rfl, (fun _ => ⟨by have := HL.out; have := HN4.out; omega, HIN.out, by have := HL.out; have := E5.out; omega, HR4.out (by first | trivial | rfl)⟩), (fun _ => HMF.out), HW4.out⟩
          ·have t5 : ((n5 : Int) != (k : Int)) = true := by simp; omega
           clear e5
           go_wp2_with fail
           go_ret
           exact ⟨_, rfl, (fun h => by cases h), (fun h => by cases h), HWr.out⟩
      ·have v2 : decide (n0 > 0) = false := by simpa using m2
       by_cases m0 : n1 + n2 + n3 > 256
       ·have v0 : decide ((n1 : Int) + (n2 : Int) + (n3 : Int) > 256) = true := dcT (by omega)
        clear m0
        go_wp2_with fail
        go_ret
        exact ⟨_, rfl, (fun h => by cases h), (fun h => by cases h), HB.out⟩
       have v0 : decide ((n1 : Int) + (n2 : Int) + (n3 : Int) > 256) = false := dcF (by omega)
       by_cases m1 : n4 < 1
       ·have v1 : decide (n4 < 1) = true := by simpa using m1
        go_wp2_with fail
        go_ret
        exact ⟨_, rfl, (fun h => by cases h), (fun h => by cases h), HB.out⟩
       have v1 : decide (n4 < 1) = false := by simpa using m1
       have HN4 : Hid (1 ≤ n4) := Hd (by omega)
       clear m0
       obtain ⟨q0, q1, q2, q3, q4, q5, q6, q7, q8, q9, q10⟩ := EQ.out w1 (Below.refl _ _)
       go_wp2_with fail
       clear q0 q1 q2 q3 q4 q5 q6 q7 q8 q9 q10
       go_loopw [4] (fun iv wr => ∃ (k : Nat), iv = .int .i64 k ∧ k ≤ n4 ∧ Hid ((∀ z ∈ x.code.take k, instrOk z) ∧ Below w1.heap.size w1 wr)) (fun iv _ => n4 - (intOf iv).toNat)
       case atStart => exact ⟨0, rfl, Nat.zero_le _, Hd ⟨by simp, Below.refl _ _⟩⟩
       case round =>
        obtain ⟨k, rfl, hk, HK⟩ := hrel
        have hk0 : (0 : Int) ≤ (k : Int) := by omega
        have hkb : (k : Int) ≤ 150 := by omega
        have HBr := Hd HK.out.2
        have HWr : Hid (Below w.heap.size w wr) := Hd (HB.out.trans (HBr.out.mono HB.out.size))
        obtain ⟨q0, q1, q2, q3, q4, q5, q6, q7, q8, q9, q10⟩ := EQ.out wr HBr.out
        by_cases hlt : k < n4
        ·have hkn : (k : Int) < (n4 : Int) := by omega
         obtain ⟨b2, off, v, rfl, hb, hv, y0, y1⟩ := slc_at (HF.out wr HBr.out).r4 hlt
         obtain ⟨vo, va⟩ := v
         dsimp only at y0 y1
         have HT : Hid (instrOk ⟨vo, va⟩ → ∀ z ∈ x.code.take (k + 1), instrOk z) := Hd (fun hv' z hz => by
          rw [← take_snoc' x.code k _ hv] at hz
          rcases List.mem_append.1 hz with hz | hz
          ·exact HK.out.1 z hz
          ·rw [List.mem_singleton] at hz; subst hz; exact hv')
         have cI := Hd (iright_any vo va wr)
         clear hb hv HK
         go_wp2_with fail
         refine cI.out.mono ?_
         rintro e w3 ⟨r3, rfl, hr3, hb3⟩
         have HR3 := Hd hr3
         have HB3 : Hid (Below w1.heap.size w1 w3) := Hd (HBr.out.trans (hb3.mono HBr.out.size))
         clear hr3 hb3 cI
         cases r3 with
         | false =>
          go_wp2_with fail
          go_ret
          exact ⟨_, rfl, (fun h => by cases h), (fun h => by cases h), HB.out.trans (HB3.out.mono HB.out.size)⟩
         | true =>
          have HT2 := Hd (HT.out (HR3.out (by first | trivial | rfl)))
          go_wp2_with fail
          go_roundw
          case rel => exact ⟨k + 1, by go_num, by omega, Hd ⟨HT2.out, HB3.out⟩⟩
          case measure => simp [intOf]; omega
        ·obtain rfl : k = n4 := by omega
         have HIN : Hid (∀ z ∈ x.code, instrOk z) := Hd (fun z hz => HK.out.1 z (by rw [List.take_of_length_le (by have := HL.out; omega)]; exact hz))
         clear HK
         by_cases e5 : n5 = k
         ·have t5 : ((n5 : Int) != (k : Int)) = false := by simp; omega
          have E5 := Hd e5
          have cK := Hd (cL.out wr HBr.out)
          have cY := Hd (cX.out (n1 + n2 + n3) (by have := HS0.out; omega) wr HBr.out)
          simp only [Int.natCast_add] at cY
          clear e5
          go_wp2_with fail
          refine cK.out.mono ?_
          rintro e w3 ⟨⟨r, rfl⟩, rfl⟩
          cases r with
          | false =>
           go_wp2_with fail
           go_ret
           exact ⟨_, rfl, (fun h => by cases h), (fun h => by cases h), HWr.out⟩
          | true =>
           go_wp2_with fail
           refine cY.out.mono ?_
           rintro e w4 ⟨r4, rfl, hr4, hb4⟩
           have HR4 := Hd hr4
           have HW4 : Hid (Below w.heap.size w w4) := Hd (HWr.out.trans (hb4.mono HWr.out.size))
           clear hr4 hb4
           cases r4 with
           | false =>
            go_wp2_with fail
            go_ret
            exact ⟨_, rfl, (fun h => by cases h), (fun h => by cases h), HW4.out⟩
           | true =>
            go_wp2_with fail
            go_ret
            exact ⟨_, rfl, (fun _ => ⟨by have := HL.out; have := HN4.out; omega, HIN.out, by have := HL.out; have := E5.out; omega, HR4.out (by first | trivial | rfl)⟩), (fun _ => HMF.out), HW4.out⟩
         ·have t5 : ((n5 : Int) != (k : Int)) = true := by simp; omega
          clear e5
          go_wp2_with fail
          go_ret
          exact ⟨_, rfl, (fun h => by cases h), (fun h => by cases h), HWr.out⟩
def IsCan2 (x : DFunc) (w : World) (e : Ending) (w' : World) : Prop := ∃ r : Int, e = .returned (.int .i64 r) ∧ (r = 0 → canMay x) ∧ Below w.heap.size w w'
theorem canx2_any (s : ByteArray) (b : Bool) (A0 : Option Addr) (n0 c0 : Nat) (A1 : Option Addr) (n1 c1 : Nat) (A2 : Option Addr) (n2 c2 : Nat) (A3 : Option Addr) (n3 c3 : Nat) (A4 : Option Addr) (n4 c4 : Nat) (A5 : Option Addr) (n5 c5 : Nat) (A6 : Option Addr) (n6 c6 : Nat) (A7 : Option Addr) (n7 c7 : Nat) (A8 : Option Addr) (n8 c8 : Nat) (x : DFunc) (w : World) (h : FnW w w.heap.size s b A0 n0 c0 A1 n1 c1 A2 n2 c2 A3 n3 c3 A4 n4 c4 A5 n5 c5 A6 n6 c6 A7 n7 c7 A8 n8 c8 x) :
  Calls Tryz.prog 91 #[.agg #[.string s, .bool b, .slice A0 n0 c0, .slice A1 n1 c1, .slice A2 n2 c2, .slice A3 n3 c3, .slice A4 n4 c4, .slice A5 n5 c5, .slice A6 n6 c6, .slice A7 n7 c7, .slice A8 n8 c8]] w (IsCan2 x w) :=
 (canx_any s b A0 n0 c0 A1 n1 c1 A2 n2 c2 A3 n3 c3 A4 n4 c4 A5 n5 c5 A6 n6 c6 A7 n7 c7 A8 n8 c8 x w h).mono fun e w' h => by
  obtain ⟨r, h1, h2, h3, h4⟩ := h
  exact ⟨r, h1, fun h => ⟨h2 h, h3 h⟩, h4⟩
def IsCanPX (fs : List DFunc) (w : World) (e : Ending) (w' : World) : Prop := ∃ r : Int, e = .returned (.int .i64 r) ∧ (r = 0 → 1 ≤ fs.length ∧ fs.length ≤ 40 ∧ ∀ x ∈ fs, canMay x) ∧ Below w.heap.size w w'
theorem canpx_any (FA : Option Addr) (fn fc : Nat) (fs : List DFunc) (w : World) (h : PgO w FA fn fc fs) :
  Calls Tryz.prog 64 #[.agg #[.slice FA fn fc]] w (IsCanPX fs w) := by
 obtain ⟨w1, hw1⟩ : ∃ X, w.alloc (.cells #[.slice FA fn fc] 24) = X := ⟨_, rfl⟩
 obtain ⟨g, hg⟩ : ∃ g, w.heap.size = g := ⟨_, rfl⟩
 have hb1 : Below w.heap.size w w1 := by rw [← hw1]; exact bl_one _
 have hc1 : Cells w1 g [.slice FA fn fc] := by rw [← hw1, ← hg]; exact Cells.new w [.slice FA fn fc] _
 have EQ : Hid (∀ W, Below w1.heap.size w1 W → W.cell? ⟨g, 0, none⟩ = some (.slice FA fn fc)) := Hd fun W hW => (hc1.on hW).at_ 0 _ rfl
 have HP : Hid (∀ W, Below w1.heap.size w1 W → PgO W FA fn fc fs) := Hd fun W hW => h.on (hb1.trans (hW.mono hb1.size))
 have HB1 := Hd hb1
 have HBW : Hid (∀ W, Below w1.heap.size w1 W → Below w.heap.size w W) := Hd fun W hW => hb1.trans (hW.mono hb1.size)
 have hfn := h.le
 have HLN : Hid (fs.length = fn) := Hd h.len
 have hn0 : (fn : Int) ≤ 50 := by omega
 have hn1 : (0 : Int) ≤ (fn : Int) := by omega
 have q0 := EQ.out w1 (Below.refl _ _)
 clear h hb1 hc1
 go_in
 by_cases h1 : fn < 1
 ·have t0 : decide ((fn : Int) < 1) = true := dcT (by omega)
  have t1 : decide (fn < 1) = true := dcT (by omega)
  go_wp2_with fail
  go_ret
  exact ⟨6, rfl, (fun h => by cases h), HB1.out⟩
 have t0 : decide ((fn : Int) < 1) = false := dcF (by omega)
 have t0' : decide (fn < 1) = false := dcF (by omega)
 by_cases h2 : 40 < fn
 ·have t1 : decide ((fn : Int) > 40) = true := dcT (by omega)
  have t1' : decide (40 < fn) = true := dcT (by omega)
  go_wp2_with fail
  go_ret
  exact ⟨6, rfl, (fun h => by cases h), HB1.out⟩
 have t1 : decide ((fn : Int) > 40) = false := dcF (by omega)
 have t1' : decide (40 < fn) = false := dcF (by omega)
 go_wp2_with fail
 clear hw1 hg q0
 go_loopw [3] (fun iv wr => ∃ k : Nat, iv = .int .i64 (k : Int) ∧ k ≤ fn ∧ Hid ((∀ x ∈ fs.take k, canMay x) ∧ Below w1.heap.size w1 wr)) (fun iv _ => fn - (intOf iv).toNat)
 case atStart => exact ⟨0, rfl, Nat.zero_le _, Hd ⟨by simp, Below.refl _ _⟩⟩
 case round =>
  obtain ⟨k, rfl, hk, HK⟩ := hrel
  have q0 := EQ.out wr HK.out.2
  have hk0 : (0 : Int) ≤ (k : Int) := by omega
  have hk1 : (k : Int) ≤ 50 := by omega
  by_cases hlt : k < fn
  ·have hkn : (k : Int) < (fn : Int) := by omega
   obtain ⟨b, off, V, x, rfl, hb, hx, hq, hfv, -⟩ := (HP.out wr HK.out.2).at_ hlt
   have cC := Hd (canx2_any V.s V.b V.A0 V.n0 V.c0 V.A1 V.n1 V.c1 V.A2 V.n2 V.c2 V.A3 V.n3 V.c3 V.A4 V.n4 V.c4 V.A5 V.n5 V.c5 V.A6 V.n6 V.c6 V.A7 V.n7 V.c7 V.A8 V.n8 V.c8 x wr hfv)
   obtain ⟨e0, e1, e2, e3, e4, e5, e6, e7, e8, e9, e10⟩ := hq
   have HT : Hid (canMay x → ∀ y ∈ fs.take (k + 1), canMay y) := Hd (fun hs y hy => by
    rw [← take_snoc' fs k x hx] at hy
    rcases List.mem_append.1 hy with hy | hy
    ·exact HK.out.1 y hy
    ·rw [List.mem_singleton] at hy; subst hy; exact hs)
   clear hx hb hfv
   go_wp2_with fail
   refine cC.out.mono ?_
   rintro e w2 ⟨r, rfl, hr, hb2⟩
   have HB2 : Hid (Below w1.heap.size w1 w2) := Hd (HK.out.2.trans (hb2.mono HK.out.2.size))
   have HR := Hd hr
   clear hb2 q0 cC e0 e1 e2 e3 e4 e5 e6 e7 e8 e9 e10 hr
   by_cases hr0 : r = 0
   ·subst hr0
    have HT2 := Hd (HT.out (HR.out rfl))
    go_wp2_with fail
    go_roundw
    case rel => exact ⟨k + 1, by go_num, by omega, Hd ⟨HT2.out, HB2.out⟩⟩
    case measure => simp [intOf]; omega
   ·have t3 : (r != 0) = true := by simpa using hr0
    go_wp2_with fail
    go_ret
    exact ⟨r, rfl, (fun h => absurd h hr0), HBW.out _ HB2.out⟩
  ·obtain rfl : k = fn := by omega
   have HALL : Hid (1 ≤ fs.length ∧ fs.length ≤ 40 ∧ ∀ x ∈ fs, canMay x) := Hd ⟨by have := HLN.out; omega, by have := HLN.out; omega, by have h1 := HK.out.1; rw [List.take_of_length_le (by have := HLN.out; omega)] at h1; exact h1⟩
   have cN := Hd (rnames_any FA k fc fs wr (HP.out wr HK.out.2))
   have HBr := Hd HK.out.2
   go_wp2_with fail
   refine cN.out.mono ?_
   rintro e w2 ⟨A, c, xs, rfl, hsl, hb2⟩
   have HB2 : Hid (Below w1.heap.size w1 w2) := Hd (HBr.out.trans (hb2.mono HBr.out.size))
   have cU := Hd (runlike_any A k c xs w2 hsl (by omega))
   clear hb2 hsl q0 cN
   go_wp2_with fail
   refine cU.out.mono ?_
   rintro e w3 ⟨⟨r, rfl⟩, hb3⟩
   have HB3 : Hid (Below w1.heap.size w1 w3) := Hd (HB2.out.trans (hb3.mono HB2.out.size))
   clear hb3 cU
   cases r with
   | true =>
    go_wp2_with fail
    go_ret
    exact ⟨0, rfl, fun _ => HALL.out, HBW.out _ HB3.out⟩
   | false =>
    go_wp2_with fail
    go_ret
    exact ⟨7, rfl, (fun h => by cases h), HBW.out _ HB3.out⟩
end Go.Proofs.YtobmjnmcjddhcaaGreat
