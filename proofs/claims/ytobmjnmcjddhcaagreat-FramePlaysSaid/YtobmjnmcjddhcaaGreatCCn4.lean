import Derived.Test.YtobmjnmcjddhcaaGreatCCn3
set_option linter.unusedSimpArgs false
set_option linter.unusedVariables false
set_option maxRecDepth 100000
set_option maxHeartbeats 16000000
namespace Go.Proofs.YtobmjnmcjddhcaaGreat
open Go.RowKit
structure FnW (w : World) (B : Nat) (s : ByteArray) (b : Bool) (A0 : Option Addr) (n0 c0 : Nat) (A1 : Option Addr) (n1 c1 : Nat) (A2 : Option Addr) (n2 c2 : Nat) (A3 : Option Addr) (n3 c3 : Nat) (A4 : Option Addr) (n4 c4 : Nat) (A5 : Option Addr) (n5 c5 : Nat) (A6 : Option Addr) (n6 c6 : Nat) (A7 : Option Addr) (n7 c7 : Nat) (A8 : Option Addr) (n8 c8 : Nat) (x : DFunc) : Prop where
 nm : s.size ≤ 1000000000000000
 r0 : SlI w B A0 n0 c0 x.outer
 r1 : SlI w B A1 n1 c1 x.params
 r2 : SlI w B A2 n2 c2 x.results
 r3 : SlI w B A3 n3 c3 x.locals
 r4 : SlC w B A4 n4 c4 x.code
 r5 : SlI w B A5 n5 c5 x.lines
 r6 : SlN w B A6 n6 c6 x.nodes
 r7 : SlI w B A7 n7 c7 x.at_
 r8 : SlS4 w B A8 n8 c8 x.live
 sm : n4 ≤ 150 ∧ n5 ≤ 150 ∧ n6 ≤ 20 ∧ n7 ≤ 150 ∧ n8 ≤ 150 ∧ n1 + n2 + n3 + n0 ≤ 300
theorem FnW.keep {w w' : World} {B : Nat} {s : ByteArray} {b : Bool} {A0 : Option Addr} {n0 c0 : Nat} {A1 : Option Addr} {n1 c1 : Nat} {A2 : Option Addr} {n2 c2 : Nat} {A3 : Option Addr} {n3 c3 : Nat} {A4 : Option Addr} {n4 c4 : Nat} {A5 : Option Addr} {n5 c5 : Nat} {A6 : Option Addr} {n6 c6 : Nat} {A7 : Option Addr} {n7 c7 : Nat} {A8 : Option Addr} {n8 c8 : Nat} {x : DFunc} (h : FnW w B s b A0 n0 c0 A1 n1 c1 A2 n2 c2 A3 n3 c3 A4 n4 c4 A5 n5 c5 A6 n6 c6 A7 n7 c7 A8 n8 c8 x) (hb : Below B w w') : FnW w' B s b A0 n0 c0 A1 n1 c1 A2 n2 c2 A3 n3 c3 A4 n4 c4 A5 n5 c5 A6 n6 c6 A7 n7 c7 A8 n8 c8 x :=
 ⟨h.nm, SlR.keep (stable_rc _) h.r0 fun p hp => hb.cell hp, SlR.keep (stable_rc _) h.r1 fun p hp => hb.cell hp, SlR.keep (stable_rc _) h.r2 fun p hp => hb.cell hp, SlR.keep (stable_rc _) h.r3 fun p hp => hb.cell hp, SlR.keep (stable_rc _) h.r4 fun p hp => hb.cell hp, SlR.keep (stable_rc _) h.r5 fun p hp => hb.cell hp, SlR.keep (stable_rc _) h.r6 fun p hp => hb.cell hp, SlR.keep (stable_rc _) h.r7 fun p hp => hb.cell hp, SlR.keep (stable_rc _) h.r8 fun p hp => hb.cell hp, h.sm⟩
theorem FnW.more {w : World} {B B' : Nat} {s : ByteArray} {b : Bool} {A0 : Option Addr} {n0 c0 : Nat} {A1 : Option Addr} {n1 c1 : Nat} {A2 : Option Addr} {n2 c2 : Nat} {A3 : Option Addr} {n3 c3 : Nat} {A4 : Option Addr} {n4 c4 : Nat} {A5 : Option Addr} {n5 c5 : Nat} {A6 : Option Addr} {n6 c6 : Nat} {A7 : Option Addr} {n7 c7 : Nat} {A8 : Option Addr} {n8 c8 : Nat} {x : DFunc} (h : FnW w B s b A0 n0 c0 A1 n1 c1 A2 n2 c2 A3 n3 c3 A4 n4 c4 A5 n5 c5 A6 n6 c6 A7 n7 c7 A8 n8 c8 x) (hB : B ≤ B') : FnW w B' s b A0 n0 c0 A1 n1 c1 A2 n2 c2 A3 n3 c3 A4 n4 c4 A5 n5 c5 A6 n6 c6 A7 n7 c7 A8 n8 c8 x :=
 ⟨h.nm, SlR.more h.r0 hB, SlR.more h.r1 hB, SlR.more h.r2 hB, SlR.more h.r3 hB, SlR.more h.r4 hB, SlR.more h.r5 hB, SlR.more h.r6 hB, SlR.more h.r7 hB, SlR.more h.r8 hB, h.sm⟩
def tabOk (nodes : List DNode) (at_ : List Int) (live : List DSet) (n : Nat) : Prop := (nodes = [] ∧ at_ = [] ∧ live = []) ∨ (nodesOk nodes ∧ at_.length = n ∧ live.length = n ∧ ∀ x ∈ at_, 0 ≤ x ∧ x < (nodes.length : Int))
def IsTb (x : DFunc) (w : World) (e : Ending) (w' : World) : Prop := ∃ b : Bool, e = .returned (.bool b) ∧ (b = true → tabOk x.nodes x.at_ x.live x.code.length) ∧ Below w.heap.size w w'
theorem tables_any (s : ByteArray) (b : Bool) (A0 : Option Addr) (n0 c0 : Nat) (A1 : Option Addr) (n1 c1 : Nat) (A2 : Option Addr) (n2 c2 : Nat) (A3 : Option Addr) (n3 c3 : Nat) (A4 : Option Addr) (n4 c4 : Nat) (A5 : Option Addr) (n5 c5 : Nat) (A6 : Option Addr) (n6 c6 : Nat) (A7 : Option Addr) (n7 c7 : Nat) (A8 : Option Addr) (n8 c8 : Nat) (x : DFunc) (m : Int) (w : World) (h : FnW w w.heap.size s b A0 n0 c0 A1 n1 c1 A2 n2 c2 A3 n3 c3 A4 n4 c4 A5 n5 c5 A6 n6 c6 A7 n7 c7 A8 n8 c8 x) (hm0 : 0 ≤ m) (hm1 : m < 1000000) :
  Calls Tryz.prog 116 #[.agg #[.string s, .bool b, .slice A0 n0 c0, .slice A1 n1 c1, .slice A2 n2 c2, .slice A3 n3 c3, .slice A4 n4 c4, .slice A5 n5 c5, .slice A6 n6 c6, .slice A7 n7 c7, .slice A8 n8 c8], .int .i64 m] w (IsTb x w) := by
 obtain ⟨w1, hw1⟩ : ∃ X, w.alloc (.cells #[.string s, .bool b, .slice A0 n0 c0, .slice A1 n1 c1, .slice A2 n2 c2, .slice A3 n3 c3, .slice A4 n4 c4, .slice A5 n5 c5, .slice A6 n6 c6, .slice A7 n7 c7, .slice A8 n8 c8] 38) = X := ⟨_, rfl⟩
 obtain ⟨g, hg⟩ : ∃ g, w.heap.size = g := ⟨_, rfl⟩
 have hc : Cells w1 g #[.string s, .bool b, .slice A0 n0 c0, .slice A1 n1 c1, .slice A2 n2 c2, .slice A3 n3 c3, .slice A4 n4 c4, .slice A5 n5 c5, .slice A6 n6 c6, .slice A7 n7 c7, .slice A8 n8 c8].toList := by rw [← hw1, ← hg]; exact Cells.new w #[.string s, .bool b, .slice A0 n0 c0, .slice A1 n1 c1, .slice A2 n2 c2, .slice A3 n3 c3, .slice A4 n4 c4, .slice A5 n5 c5, .slice A6 n6 c6, .slice A7 n7 c7, .slice A8 n8 c8].toList _
 have hb1 : Below w.heap.size w w1 := by rw [← hw1]; exact bl_one _
 have HB := Lib.hid hb1
 have EQ : Hid (∀ W, Below w1.heap.size w1 W → W.cell? ⟨g, 8, none⟩ = some (.slice A6 n6 c6) ∧ W.cell? ⟨g, 9, none⟩ = some (.slice A7 n7 c7)) := Lib.hid fun W hW => ⟨(hc.on hW).at_ 8 _ rfl, (hc.on hW).at_ 9 _ rfl⟩
 have q0 := hc.at_ 0 _ rfl
 have q1 := hc.at_ 1 _ rfl
 have q2 := hc.at_ 2 _ rfl
 have q3 := hc.at_ 3 _ rfl
 have q4 := hc.at_ 4 _ rfl
 have q5 := hc.at_ 5 _ rfl
 have q6 := hc.at_ 6 _ rfl
 have q7 := hc.at_ 7 _ rfl
 have q8 := hc.at_ 8 _ rfl
 have q9 := hc.at_ 9 _ rfl
 have q10 := hc.at_ 10 _ rfl
 have QS : Hid (∀ W, Below w1.heap.size w1 W → W.cell? ⟨g, 6, none⟩ = some (.slice A4 n4 c4) ∧ W.cell? ⟨g, 10, none⟩ = some (.slice A8 n8 c8)) := Lib.hid fun W hW => ⟨(hc.on hW).at_ 6 _ rfl, (hc.on hW).at_ 10 _ rfl⟩
 have HF : Hid (∀ W, Below w1.heap.size w1 W → FnW W W.heap.size s b A0 n0 c0 A1 n1 c1 A2 n2 c2 A3 n3 c3 A4 n4 c4 A5 n5 c5 A6 n6 c6 A7 n7 c7 A8 n8 c8 x) := Lib.hid fun W hW => by
  have h2 : Below w.heap.size w W := hb1.trans (hW.mono hb1.size)
  exact (h.keep h2).more h2.size
 obtain ⟨s4, s5, s6, s7, s8, _⟩ := h.sm
 have cB := Lib.hid (rbare_any s b A0 n0 c0 A1 n1 c1 A2 n2 c2 A3 n3 c3 A4 n4 c4 A5 n5 c5 A6 n6 c6 A7 n7 c7 A8 n8 c8 w1 (by omega) (by omega) (by omega) _ rfl)
 have cN : Hid (∀ W, Below w1.heap.size w1 W → Calls Tryz.prog 145 #[.slice A6 n6 c6] W (IsNr x.nodes W)) := Lib.hid fun W hW => nright_any A6 n6 c6 x.nodes W (HF.out W hW).r6
 have cM : Hid (∀ W, Below w1.heap.size w1 W → Calls Tryz.prog 146 #[.slice A8 n8 c8, .int .i64 m] W (IsBool W)) := Lib.hid fun W hW => mright_any A8 n8 c8 x.live m W (HF.out W hW).r8 (by omega) (by omega) (by omega)
 have HL : Hid (x.code.length = n4 ∧ x.nodes.length = n6 ∧ x.at_.length = n7 ∧ x.live.length = n8) := Lib.hid ⟨h.r4.1, h.r6.1, h.r7.1, h.r8.1⟩
 have k4 : (n4 : Int) ≤ 150 := by omega
 have k6 : (n6 : Int) ≤ 20 := by omega
 have k7 : (n7 : Int) ≤ 150 := by omega
 have k8 : (n8 : Int) ≤ 150 := by omega
 clear hc h hb1
 obtain ⟨r, hr⟩ : ∃ r, decide (n6 + n7 + n8 = 0) = r := ⟨_, rfl⟩
 rw [hr] at cB
 go_enter Tryz.func116, Tryz.ntmps116
 go_wp2_with fail
 refine cB.out.mono ?_
 rintro e w2 ⟨rfl, hb2⟩
 have HB2 := Lib.hid hb2
 clear hb2 cB q0 q1 q2 q3 q4 q5 q6 q7 q8 q9 q10
 cases r with
 | true =>
  have hz : n6 + n7 + n8 = 0 := by simpa using hr
  have HZ : Hid (tabOk x.nodes x.at_ x.live x.code.length) := Lib.hid (.inl ⟨List.eq_nil_of_length_eq_zero (by have := HL.out; omega), List.eq_nil_of_length_eq_zero (by have := HL.out; omega), List.eq_nil_of_length_eq_zero (by have := HL.out; omega)⟩)
  clear hr hz
  go_wp2_with fail
  go_ret
  exact ⟨_, rfl, (fun _ => HZ.out), HB.out.trans (HB2.out.mono HB.out.size)⟩
 | false =>
  clear hr
  obtain ⟨q8, q9⟩ := EQ.out w2 HB2.out
  have cK := Lib.hid (cN.out w2 HB2.out)
  go_wp2_with fail
  refine cK.out.mono ?_
  rintro e w3 ⟨r3, rfl, hr3, hb3⟩
  have HB3 : Hid (Below w1.heap.size w1 w3) := Lib.hid (HB2.out.trans (hb3.mono HB2.out.size))
  have HR3 := Lib.hid hr3
  clear hb3 hr3 cK q8 q9
  have HW3 : Hid (Below w.heap.size w w3) := Lib.hid (HB.out.trans (HB3.out.mono HB.out.size))
  cases r3 with
  | false =>
   go_wp2_with fail
   go_ret
   exact ⟨_, rfl, (fun h => by cases h), HW3.out⟩
  | true =>
   obtain ⟨q8, q9⟩ := EQ.out w3 HB3.out
   obtain ⟨q6, q10⟩ := QS.out w3 HB3.out
   by_cases e7 : n7 = n4
   ·have t7 : ((n7 : Int) != (n4 : Int)) = false := by simp; omega
    have E7 := Lib.hid e7
    by_cases e8 : n8 = n4
    ·have t8 : ((n8 : Int) != (n4 : Int)) = false := by simp; omega
     have E8 := Lib.hid e8
     have cK := Lib.hid (cM.out w3 HB3.out)
     clear e7 e8
     go_wp2_with fail
     refine cK.out.mono ?_
     rintro e w4 ⟨⟨r4, rfl⟩, hb4⟩
     have HB4 : Hid (Below w1.heap.size w1 w4) := Lib.hid (HB3.out.trans (hb4.mono HB3.out.size))
     have HW4 : Hid (Below w.heap.size w w4) := Lib.hid (HB.out.trans (HB4.out.mono HB.out.size))
     obtain ⟨q8, q9⟩ := EQ.out w4 HB4.out
     clear hb4 cK
     cases r4 with
     | false =>
      go_wp2_with fail
      go_ret
      exact ⟨_, rfl, (fun h => by cases h), HW4.out⟩
     | true =>
      go_wp2_with fail
      go_loopw [5] (fun iv wr => ∃ (k : Nat), iv = .int .i64 k ∧ k ≤ n7 ∧ Hid ((∀ z ∈ x.at_.take k, 0 ≤ z ∧ z < (n6 : Int)) ∧ Below w1.heap.size w1 wr)) (fun iv _ => n7 - (intOf iv).toNat)
      case atStart => exact ⟨0, rfl, Nat.zero_le _, Lib.hid ⟨by simp, HB4.out⟩⟩
      case round =>
       clear q8 q9
       obtain ⟨k, rfl, hk, HK⟩ := hrel
       have hk0 : (0 : Int) ≤ (k : Int) := by omega
       have hkb : (k : Int) ≤ 150 := by omega
       have HBr := Lib.hid HK.out.2
       have HWr : Hid (Below w.heap.size w wr) := Lib.hid (HB.out.trans (HBr.out.mono HB.out.size))
       obtain ⟨q8, q9⟩ := EQ.out wr HBr.out
       by_cases hlt : k < n7
       ·have hkn : (k : Int) < (n7 : Int) := by omega
        obtain ⟨b2, off, v, rfl, hb, hv, hc⟩ := SlR.cell1 (f := Value.int .i64) (HF.out wr HBr.out).r7 hlt
        have HT : Hid (0 ≤ v ∧ v < (n6 : Int) → ∀ z ∈ x.at_.take (k + 1), 0 ≤ z ∧ z < (n6 : Int)) := Lib.hid (fun hv' z hz => by
         rw [← take_snoc' x.at_ k v hv] at hz
         rcases List.mem_append.1 hz with hz | hz
         ·exact HK.out.1 z hz
         ·rw [List.mem_singleton] at hz; subst hz; exact hv')
        clear hb hv HK
        by_cases g0 : v < 0
        ·have u0 : decide (v < 0) = true := by simpa using g0
         go_wp2_with fail
         go_quiet (fail)
         go_wp2_with fail
         go_ret
         exact ⟨_, rfl, (fun h => by cases h), below_drewN' HWr.out _⟩
        ·have u0 : decide (v < 0) = false := by simpa using g0
         by_cases g1 : v ≥ (n6 : Int)
         ·have u1 : decide (v ≥ (n6 : Int)) = true := by simpa using g1
          go_wp2_with fail
          go_quiet (fail)
          go_wp2_with fail
          go_ret
          exact ⟨_, rfl, (fun h => by cases h), below_drewN' HWr.out _⟩
         ·have u1 : decide (v ≥ (n6 : Int)) = false := by simpa using g1
          have HT2 := Lib.hid (HT.out ⟨by omega, by omega⟩)
          go_wp2_with fail
          go_quiet (fail)
          go_wp2_with fail
          go_roundw
          case rel => exact ⟨k + 1, by go_num, by omega, Lib.hid ⟨HT2.out, below_drewN' HBr.out _⟩⟩
          case measure => simp [intOf]; omega
       ·obtain rfl : k = n7 := by omega
        have HOK : Hid (tabOk x.nodes x.at_ x.live x.code.length) := Lib.hid (.inr ⟨HR3.out (by first | trivial | rfl), by have := HL.out; have := E7.out; omega, by have := HL.out; have := E8.out; omega, fun z hz => by
         have h1 := HK.out.1 z (by rw [List.take_of_length_le (by have := HL.out; omega)]; exact hz)
         have := HL.out
         omega⟩)
        clear HK
        go_wp2_with fail
        go_ret
        exact ⟨_, rfl, (fun _ => HOK.out), HWr.out⟩
    ·have t8 : ((n8 : Int) != (n4 : Int)) = true := by simp; omega
     clear e7 e8
     go_wp2_with fail
     go_ret
     exact ⟨_, rfl, (fun h => by cases h), HW3.out⟩
   ·have t7 : ((n7 : Int) != (n4 : Int)) = true := by simp; omega
    clear e7
    go_wp2_with fail
    go_ret
    exact ⟨_, rfl, (fun h => by cases h), HW3.out⟩
end Go.Proofs.YtobmjnmcjddhcaaGreat
