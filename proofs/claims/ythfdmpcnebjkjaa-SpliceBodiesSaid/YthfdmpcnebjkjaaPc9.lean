/-
  Pieces of bodies: the walk of SpliceLong.
-/
import Derived.Test.YthfdmpcnebjkjaaPc8
import Derived.Test.YthfdmpcnebjkjaaCn5
import Derived.Test.YthfdmpcnebjkjaaGs8
namespace Go.Proofs.Ythfdmpcnebjkjaa
open Go.RowKit
set_option linter.unusedSimpArgs false
set_option linter.unusedVariables false
theorem code_noret (x : DFunc) (sa sn ss : Int) (n1 n2 : Nat) : ∀ z ∈ codeL x sa sn ss n1 n2, z.op ≠ 25 := by
  intro z hz
  unfold codeL at hz
  simp only [List.mem_append, List.mem_singleton] at hz
  rcases hz with ((hz | hz) | hz) | hz
  · unfold begC at hz
    obtain ⟨i, _, rfl⟩ := List.mem_map.1 hz
    show (3 : Int) ≠ 25
    decide
  · subst hz
    show (33 : Int) ≠ 25
    decide
  · unfold bodyC at hz
    obtain ⟨i, _, rfl⟩ := List.mem_map.1 hz
    unfold retM
    split
    · show (34 : Int) ≠ 25
      decide
    · assumption
  · unfold endC at hz
    obtain ⟨i, _, rfl⟩ := List.mem_map.1 hz
    show (2 : Int) ≠ 25
    decide
theorem bound_of {w : World} {B : Nat} {A0 A1 A2 A3 : Option Addr} {n0 n1 n2 n3 c0 c1 c2 c3 : Nat} {a b c d : List Int} (h0 : SlR 1 8 (RInt .i64) w B A0 n0 c0 a) (h1 : SlR 1 8 (RInt .i64) w B A1 n1 c1 b) (h2 : SlR 1 8 (RInt .i64) w B A2 n2 c2 c) (h3 : SlR 1 8 (RInt .i64) w B A3 n3 c3 d) (n4 n5 n6 n7 n8 : Nat) : BoundL n0 n1 n2 n3 n4 n5 n6 n7 n8 := by
  have e0 := h0.2.2.2.1
  have e1 := h1.2.2.2.1
  have e2 := h2.2.2.2.1
  have e3 := h3.2.2.2.1
  unfold reachBytes at e0 e1 e2 e3
  unfold BoundL
  omega
theorem small_spec {n0 n1 n2 n3 n4 n5 n6 n7 n8 : Nat} (h : smallB n0 n1 n2 n3 n4 n5 n6 n7 n8 = true) : n4 ≤ 150 ∧ n5 ≤ 150 ∧ n6 ≤ 20 ∧ n7 ≤ 150 ∧ n8 ≤ 150 ∧ n1 + n2 + n3 + n0 ≤ 300 := by
  unfold smallB at h
  simpa using h
set_option maxRecDepth 100000 in
set_option maxHeartbeats 32000000 in
theorem spliceLong_walk (cs0 : Array Value) (x : DFunc) (cs1 : Array Value) (y : DSpot) (w : World) (h0 : RFunc w w.heap.size cs0.toList x) (h1 : RSpot w w.heap.size cs1.toList y) :
    Calls Try.prog 4 #[.agg cs0, .agg cs1] w fun e w' => e = .returned (.bool true) ∧ Below w.heap.size w w' := by
  obtain ⟨A0, n0, c0, A1, n1, c1, A2, n2, c2, A3, n3, c3, A4, n4, c4, A5, n5, c5, A6, n6, c6, A7, n7, c7, A8, n8, c8, ec0, hnm, r0, r1, r2, r3, r4, r5, r6, r7, r8⟩ := h0
  obtain ⟨ec1, _⟩ := h1
  obtain ⟨s, hs⟩ : ∃ s, x.name = s := ⟨_, rfl⟩
  obtain ⟨b, hb⟩ : ∃ b, x.inner = b := ⟨_, rfl⟩
  rw [hs] at hnm
  rw [hs, hb] at ec0
  obtain rfl : cs0 = #[.string s, .bool b, .slice A0 n0 c0, .slice A1 n1 c1, .slice A2 n2 c2, .slice A3 n3 c3, .slice A4 n4 c4, .slice A5 n5 c5, .slice A6 n6 c6, .slice A7 n7 c7, .slice A8 n8 c8] := by rw [← Array.toArray_toList (xs := cs0), ec0]
  obtain ⟨sa, sn, ss, sp, sl⟩ := y
  dsimp only at ec1
  obtain rfl : cs1 = #[.int .i64 sa, .int .i64 sn, .int .i64 ss, .int .i64 sp, .int .i64 sl] := by rw [← Array.toArray_toList (xs := cs1), ec1]
  obtain ⟨w2, hw2⟩ : ∃ X, (w.alloc (.cells #[.string s, .bool b, .slice A0 n0 c0, .slice A1 n1 c1, .slice A2 n2 c2, .slice A3 n3 c3, .slice A4 n4 c4, .slice A5 n5 c5, .slice A6 n6 c6, .slice A7 n7 c7, .slice A8 n8 c8] 28)).alloc (.cells #[.int .i64 sa, .int .i64 sn, .int .i64 ss, .int .i64 sp, .int .i64 sl] 30) = X := ⟨_, rfl⟩
  obtain ⟨g, hg⟩ : ∃ g, w.heap.size = g := ⟨_, rfl⟩
  have hb2 : Below w.heap.size w w2 := by rw [← hw2]; exact two_below
  have ht : TwoB w g s b A0 n0 c0 A1 n1 c1 A2 n2 c2 A3 n3 c3 A4 n4 c4 A5 n5 c5 A6 n6 c6 A7 n7 c7 A8 n8 c8 sa sn ss sp sl w2 := by rw [← hw2, ← hg]; exact TwoB.new w s b A0 n0 c0 A1 n1 c1 A2 n2 c2 A3 n3 c3 A4 n4 c4 A5 n5 c5 A6 n6 c6 A7 n7 c7 A8 n8 c8 sa sn ss sp sl
  have HB2 := Lib.hid hb2
  have EQ : Hid (∀ W, Below w2.heap.size w2 W → (W.cell? ⟨g, 0, none⟩ = some (.string s) ∧ W.cell? ⟨g, 1, none⟩ = some (.bool b) ∧ W.cell? ⟨g, 2, none⟩ = some (.slice A0 n0 c0) ∧ W.cell? ⟨g, 3, none⟩ = some (.slice A1 n1 c1) ∧ W.cell? ⟨g, 4, none⟩ = some (.slice A2 n2 c2) ∧ W.cell? ⟨g, 5, none⟩ = some (.slice A3 n3 c3) ∧ W.cell? ⟨g, 6, none⟩ = some (.slice A4 n4 c4) ∧ W.cell? ⟨g, 7, none⟩ = some (.slice A5 n5 c5) ∧ W.cell? ⟨g, 8, none⟩ = some (.slice A6 n6 c6) ∧ W.cell? ⟨g, 9, none⟩ = some (.slice A7 n7 c7) ∧ W.cell? ⟨g, 10, none⟩ = some (.slice A8 n8 c8)) ∧ W.cell? ⟨g + 1, 0, none⟩ = some (.int .i64 sa) ∧ W.cell? ⟨g + 1, 1, none⟩ = some (.int .i64 sn) ∧ W.cell? ⟨g + 1, 2, none⟩ = some (.int .i64 ss) ∧ W.cell? ⟨g + 1, 3, none⟩ = some (.int .i64 sp) ∧ W.cell? ⟨g + 1, 4, none⟩ = some (.int .i64 sl)) := Lib.hid fun W hW => by
    have h3 := ht.kp ((Kp.refl (fun _ => False) w2).ofBelow hW) id id
    exact ⟨⟨h3.a.at_ 0 _ rfl, h3.a.at_ 1 _ rfl, h3.a.at_ 2 _ rfl, h3.a.at_ 3 _ rfl, h3.a.at_ 4 _ rfl, h3.a.at_ 5 _ rfl, h3.a.at_ 6 _ rfl, h3.a.at_ 7 _ rfl, h3.a.at_ 8 _ rfl, h3.a.at_ 9 _ rfl, h3.a.at_ 10 _ rfl⟩, h3.b.at_ 0 _ rfl, h3.b.at_ 1 _ rfl, h3.b.at_ 2 _ rfl, h3.b.at_ 3 _ rfl, h3.b.at_ 4 _ rfl⟩
  have cSm := Lib.hid (small15_any s b A0 n0 c0 A1 n1 c1 A2 n2 c2 A3 n3 c3 A4 n4 c4 A5 n5 c5 A6 n6 c6 A7 n7 c7 A8 n8 c8 w2 (bound_of r0 r1 r2 r3 n4 n5 n6 n7 n8))
  have HFW : Hid (smallB n0 n1 n2 n3 n4 n5 n6 n7 n8 = true → ∀ W, Below w2.heap.size w2 W → FnW W W.heap.size s b A0 n0 c0 A1 n1 c1 A2 n2 c2 A3 n3 c3 A4 n4 c4 A5 n5 c5 A6 n6 c6 A7 n7 c7 A8 n8 c8 x) := Lib.hid fun hsm W hW => by
    have h2 : Below w.heap.size w W := hb2.trans (hW.mono hb2.size)
    have h4 : FnW w w.heap.size s b A0 n0 c0 A1 n1 c1 A2 n2 c2 A3 n3 c3 A4 n4 c4 A5 n5 c5 A6 n6 c6 A7 n7 c7 A8 n8 c8 x := ⟨by have := hnm; unfold reachBytes at this; omega, sli_of r0, sli_of r1, sli_of r2, sli_of r3, slc_of r4, sli_of r5, sln_of r6, sli_of r7, sls4_of r8, small_spec hsm⟩
    exact (h4.keep h2).more h2.size
  have HBW : Hid (∀ W, Below w2.heap.size w2 W → Below w.heap.size w W) := Lib.hid fun W hW => hb2.trans (hW.mono hb2.size)
  have hcl : Hid (∀ W, Below w2.heap.size w2 W → Calls Try.prog 7 #[] W fun e w' => e = .returned (.bool true) ∧ Below w.heap.size w w') := Lib.hid fun W hW => (splice_lives W).mono (by
    rintro e w' ⟨rfl, hb⟩
    exact ⟨rfl, (HBW.out W hW).trans (hb.mono (HBW.out W hW).size)⟩)
  obtain ⟨⟨e0, e1, e2, e3, e4, e5, e6, e7, e8, e9, e10⟩, b0, b1, b2, b3, b4⟩ := EQ.out w2 (Below.refl _ _)
  obtain ⟨sm, hsm⟩ : ∃ r, smallB n0 n1 n2 n3 n4 n5 n6 n7 n8 = r := ⟨_, rfl⟩
  rw [hsm] at cSm HFW
  have HSM : Hid (sm = true → n4 ≤ 150 ∧ n5 ≤ 150 ∧ n6 ≤ 20 ∧ n7 ≤ 150 ∧ n8 ≤ 150 ∧ n1 + n2 + n3 + n0 ≤ 300) := Lib.hid fun h => small_spec (hsm.trans h)
  clear hb2 ht r0 r1 r2 r3 r4 r5 r6 r7 r8 hnm hsm hs hb ec0 ec1
  go_enter Try.func4, Try.ntmps4
  go_wp2_with fail
  refine cSm.out.mono ?_
  rintro e w3 ⟨rfl, hb3⟩
  have HC3 := Lib.hid hb3
  clear hb3 cSm hw2 hg e0 e1 e2 e3 e4 e5 e6 e7 e8 e9 e10 b0 b1 b2 b3 b4
  cases sm with
  | false =>
    go_wp2_with fail
    refine (hcl.out w3 HC3.out).mono ?_
    rintro e w4 ⟨rfl, hb4⟩
    go_wp2_with fail
    go_ret
    exact ⟨rfl, hb4⟩
  | true =>
    have HF : Hid (∀ W, Below w2.heap.size w2 W → FnW W W.heap.size s b A0 n0 c0 A1 n1 c1 A2 n2 c2 A3 n3 c3 A4 n4 c4 A5 n5 c5 A6 n6 c6 A7 n7 c7 A8 n8 c8 x) := Lib.hid (HFW.out rfl)
    obtain ⟨s4, s5, s6, s7, s8, s0⟩ := HSM.out rfl
    have cCan := Lib.hid (can_any s b A0 n0 c0 A1 n1 c1 A2 n2 c2 A3 n3 c3 A4 n4 c4 A5 n5 c5 A6 n6 c6 A7 n7 c7 A8 n8 c8 x w3 (HF.out w3 HC3.out))
    obtain ⟨⟨e0, e1, e2, e3, e4, e5, e6, e7, e8, e9, e10⟩, b0, b1, b2, b3, b4⟩ := EQ.out w3 HC3.out
    clear HFW HSM
    go_wp2_with fail
    refine cCan.out.mono ?_
    rintro e w4 ⟨r, rfl, _, hb4⟩
    have HC4 : Hid (Below w2.heap.size w2 w4) := Lib.hid (HC3.out.trans (hb4.mono HC3.out.size))
    clear hb4 cCan e0 e1 e2 e3 e4 e5 e6 e7 e8 e9 e10 b0 b1 b2 b3 b4
    by_cases hr : r = 0
    · have t0 : (r != 0) = false := by simpa using hr
      have cBd := Lib.hid (bd_any 0 s b A0 n0 c0 A1 n1 c1 A2 n2 c2 A3 n3 c3 A4 n4 c4 A5 n5 c5 A6 n6 c6 A7 n7 c7 A8 n8 c8 sa sn ss sp sl x w4 (HF.out w4 HC4.out))
      obtain ⟨⟨e0, e1, e2, e3, e4, e5, e6, e7, e8, e9, e10⟩, b0, b1, b2, b3, b4⟩ := EQ.out w4 HC4.out
      clear hr
      go_wp2_with fail
      refine cBd.out.mono ?_
      rintro e w5 ⟨D0, d0, D1, d1, D2, d2, D3, d3, D4, d4, rfl, hd0, hd1, hd2, hd3, hd4, hb5⟩
      have HC5 : Hid (Below w2.heap.size w2 w5) := Lib.hid (HC4.out.trans (hb5.mono HC4.out.size))
      have hkb : n1 + 1 + n4 + n2 ≤ 1000 := by omega
      have HD0 : Hid (SlC w5 w5.heap.size D0 (n1 + 1 + n4 + n2) d0 (codeL x sa sn ss n1 n2)) := Lib.hid (SlR.of_ownN (sz := 2) (bytes := 16) (f := cellsI) (fun _ => rfl) (by omega) hd0 (by unfold reachBytes; omega))
      obtain ⟨kk, hkk⟩ : ∃ k, n1 + 1 + n4 + n2 = k := ⟨_, rfl⟩
      rw [hkk] at HD0 hkb
      simp only [hkk]
      obtain ⟨mn, hmn⟩ : ∃ m, 1 + (n6 - 1) = m := ⟨_, rfl⟩
      simp only [hmn]
      have hkb1 : (kk : Int) ≤ 1000 := by omega
      have hkb0 : (0 : Int) ≤ (kk : Int) := by omega
      have hmx : max (n6 : Int) 1 = (mn : Int) := by omega
      clear e0 e1 e2 e3 e4 e5 e6 e7 e8 e9 e10 b0 b1 b2 b3 b4 hb5 cBd hd0 hd1 hd2 hd3 hd4
      obtain ⟨pb, hpb⟩ : ∃ X, w5.heap.size = X := ⟨_, rfl⟩
      go_wp2_with fail
      obtain ⟨w6, hw6⟩ : ∃ X, w5.alloc (.cells #[.slice D0 kk d0, .slice D1 kk d1, .slice D2 kk d2, .slice D3 mn d3, .slice D4 (n1 + n2 + n3) d4] 36) = X := ⟨_, rfl⟩
      rw [hw6]
      have hb6 : Below w5.heap.size w5 w6 := by rw [← hw6]; exact bl_one _
      have hc6 : Cells w6 pb [.slice D0 kk d0, .slice D1 kk d1, .slice D2 kk d2, .slice D3 mn d3, .slice D4 (n1 + n2 + n3) d4] := by rw [← hw6]; exact cells_new_at hpb [.slice D0 kk d0, .slice D1 kk d1, .slice D2 kk d2, .slice D3 mn d3, .slice D4 (n1 + n2 + n3) d4] _
      have HC6 : Hid (Below w2.heap.size w2 w6) := Lib.hid (HC5.out.trans (hb6.mono HC5.out.size))
      have HP6 := Lib.hid hc6
      have HD6 : Hid (SlC w6 w6.heap.size D0 kk d0 (codeL x sa sn ss n1 n2)) := Lib.hid (HD0.out.on hb6)
      have y0 := hc6.at_ 0 _ rfl
      clear hb6 hc6 hw6 hpb HD0
      go_wp2_with fail
      go_loop [6] (fun i => ∃ k : Nat, i = .int .i64 (k : Int) ∧ k ≤ kk) (fun i => kk - (intOf i).toNat)
      case atStart => exact ⟨0, rfl, Nat.zero_le _⟩
      case round =>
        obtain ⟨k, rfl, hk⟩ := hrel
        have hk0 : (0 : Int) ≤ (k : Int) := by omega
        have hk1 : (k : Int) ≤ 1000 := by omega
        by_cases hlt : k < kk
        · have hkn : (k : Int) < (kk : Int) := by omega
          obtain ⟨b0, o0, z, rfl, _, hz, q0, q1⟩ := slc_at HD6.out hlt
          have hno := code_noret x sa sn ss n1 n2 z (List.mem_of_getElem? hz)
          obtain ⟨zo, za⟩ := z
          dsimp only at hno q0 q1
          have t25 : (zo == 25) = false := by simpa using hno
          clear hno hz
          go_wp2_with fail
          go_round
          case rel => exact ⟨k + 1, by go_num, by omega⟩
          case measure => simp [intOf]; omega
        · obtain rfl : k = kk := by omega
          have cLg : Hid (∀ W, Calls Try.prog 14 #[.agg #[.string s, .bool b, .slice A0 n0 c0, .slice A1 n1 c1, .slice A2 n2 c2, .slice A3 n3 c3, .slice A4 n4 c4, .slice A5 n5 c5, .slice A6 n6 c6, .slice A7 n7 c7, .slice A8 n8 c8]] W fun e w' => e = .returned (.int .i64 (k : Int)) ∧ Below W.heap.size W w') := Lib.hid (fun W => by rw [← hkk]; exact long_any s b A0 n0 c0 A1 n1 c1 A2 n2 c2 A3 n3 c3 A4 n4 c4 A5 n5 c5 A6 n6 c6 A7 n7 c7 A8 n8 c8 W (by omega) (by omega) (by omega))
          obtain ⟨⟨e0, e1, e2, e3, e4, e5, e6, e7, e8, e9, e10⟩, b0, b1, b2, b3, b4⟩ := EQ.out w6 HC6.out
          go_wp2_with fail
          refine (cLg.out w6).mono ?_
          rintro e w7 ⟨rfl, hb7⟩
          have HC7 : Hid (Below w2.heap.size w2 w7) := Lib.hid (HC6.out.trans (hb7.mono HC6.out.size))
          have hp7 := HP6.out.on hb7
          clear y0 e0 e1 e2 e3 e4 e5 e6 e7 e8 e9 e10 b0 b1 b2 b3 b4
          have y0 := hp7.at_ 0 _ rfl
          have y1 := hp7.at_ 1 _ rfl
          have y2 := hp7.at_ 2 _ rfl
          have y3 := hp7.at_ 3 _ rfl
          obtain ⟨⟨e0, e1, e2, e3, e4, e5, e6, e7, e8, e9, e10⟩, b0, b1, b2, b3, b4⟩ := EQ.out w7 HC7.out
          have tk : ((k : Int) == (k : Int)) = true := by simp
          have tm : ((mn : Int) == (mn : Int)) = true := by simp
          clear hp7 hb7 hkk
          by_cases h6 : n6 = 0
          · obtain rfl : mn = 1 := by omega
            subst h6
            clear hmn hmx
            go_wp2_with fail
            refine (hcl.out w7 HC7.out).mono ?_
            rintro e w8 ⟨rfl, hb8⟩
            go_wp2_with fail
            go_ret
            exact ⟨rfl, hb8⟩
          · obtain rfl : mn = n6 := by omega
            have h61 : (1 : Int) < (mn : Int) ∨ (mn : Int) = 1 := by omega
            clear hmn
            rcases h61 with h61 | h61
            · have u1 : decide ((mn : Int) < 1) = false := by rw [decide_eq_false_iff_not]; omega
              have u2 : decide ((1 : Int) < (mn : Int)) = true := by rw [decide_eq_true_eq]; omega
              have u3 : decide (mn < 1) = false := by rw [decide_eq_false_iff_not]; omega
              have u4 : decide (1 < mn) = true := by rw [decide_eq_true_eq]; omega
              go_wp2_with fail
              refine (hcl.out w7 HC7.out).mono ?_
              rintro e w8 ⟨rfl, hb8⟩
              go_wp2_with fail
              go_ret
              exact ⟨rfl, hb8⟩
            · obtain rfl : mn = 1 := by omega
              clear h61 hmx h6
              go_wp2_with fail
              refine (hcl.out w7 HC7.out).mono ?_
              rintro e w8 ⟨rfl, hb8⟩
              go_wp2_with fail
              go_ret
              exact ⟨rfl, hb8⟩
    · have t0 : (r != 0) = true := by simpa using hr
      clear hr
      go_wp2_with fail
      refine (hcl.out w4 HC4.out).mono ?_
      rintro e w5 ⟨rfl, hb5⟩
      go_wp2_with fail
      go_ret
      exact ⟨rfl, hb5⟩
end Go.Proofs.Ythfdmpcnebjkjaa
