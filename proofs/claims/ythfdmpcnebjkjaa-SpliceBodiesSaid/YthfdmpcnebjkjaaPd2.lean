/-
  Pieces of bodies, the document's: a function's slots, its own ones, how long, whether two lists of types are the same.
-/
import Derived.Test.YthfdmpcnebjkjaaPd1
import Derived.Test.YthfdmpcnebjkjaaPc6
namespace Go.Proofs.Ythfdmpcnebjkjaa
open Go.RowKit
set_option linter.unusedSimpArgs false
set_option linter.unusedVariables false
set_option maxRecDepth 100000 in
set_option maxHeartbeats 4000000 in
theorem types_same (n c c' : Nat) (A A' : Option Addr) (xs : List Int) (w : World) (h : SlI w w.heap.size A n c xs) (h' : SlI w w.heap.size A' n c' xs) (hn : n ≤ 100000) :
    Calls Try.prog 13 #[.slice A n c, .slice A' n c'] w fun e w' => e = .returned (.bool true) ∧ Below w.heap.size w w' := by
  have H := Lib.hid h
  have H' := Lib.hid h'
  have t0 : ((n : Int) != (n : Int)) = false := by simp
  clear h h'
  go_enter Try.func13, Try.ntmps13
  go_wp2_with fail
  go_loopw [5] (fun i wr => ∃ k : Nat, i = .int .i64 k ∧ k ≤ n ∧ Hid (Below w.heap.size w wr)) (fun i _ => n - (intOf i).toNat)
  case atStart => exact ⟨0, rfl, Nat.zero_le _, Lib.hid (Below.refl _ _)⟩
  case round =>
    obtain ⟨k, rfl, hk, hb⟩ := hrel
    by_cases hlt : k < n
    · obtain ⟨b, off, rfl, hbB, q0⟩ := H.out.getD hlt 0
      obtain ⟨b', off', rfl, hbB', q0'⟩ := H'.out.getD hlt 0
      have q1 : wr.cell? ⟨b, off + k, none⟩ = some (.int .i64 (xs.getD k 0)) := (hb.out.cell hbB).trans q0
      have q1' : wr.cell? ⟨b', off' + k, none⟩ = some (.int .i64 (xs.getD k 0)) := (hb.out.cell hbB').trans q0'
      obtain ⟨v, hv⟩ : ∃ v, xs.getD k 0 = v := ⟨_, rfl⟩
      rw [hv] at q1 q1'
      have tv : (v != v) = false := by simp
      have hka : (k : Int) < (n : Int) := by omega
      have hk0 : (0 : Int) ≤ (k : Int) := by omega
      clear q0 q0' hv hbB hbB'
      go_wp2_with fail
      go_quiet (fail)
      go_wp2_with fail
      go_roundw
      case rel => exact ⟨k + 1, by go_num, by omega, Lib.hid (below_drewN' hb.out _)⟩
      case measure => simp [intOf]; omega
    · have hkn : k = n := by omega
      subst hkn
      go_wp2_with fail
      go_ret
      exact ⟨rfl, hb.out⟩
set_option maxRecDepth 100000 in
set_option maxHeartbeats 4000000 in
theorem rlong_any (s : ByteArray) (b : Bool) (A0 : Option Addr) (n0 c0 : Nat) (A1 : Option Addr) (n1 c1 : Nat) (A2 : Option Addr) (n2 c2 : Nat) (A3 : Option Addr) (n3 c3 : Nat) (A4 : Option Addr) (n4 c4 : Nat) (A5 : Option Addr) (n5 c5 : Nat) (A6 : Option Addr) (n6 c6 : Nat) (A7 : Option Addr) (n7 c7 : Nat) (A8 : Option Addr) (n8 c8 : Nat) (w : World) (h1 : n1 ≤ 300) (h2 : n2 ≤ 300) (h4 : n4 ≤ 150) : Calls Try.prog 15 #[.agg #[.string s, .bool b, .slice A0 n0 c0, .slice A1 n1 c1, .slice A2 n2 c2, .slice A3 n3 c3, .slice A4 n4 c4, .slice A5 n5 c5, .slice A6 n6 c6, .slice A7 n7 c7, .slice A8 n8 c8]] w fun e w' => e = .returned (.int .i64 ((n1 + 1 + n4 + n2 : Nat) : Int)) ∧ Below w.heap.size w w' := by
  obtain ⟨w1, hw1⟩ : ∃ w1, w.alloc (.cells #[.string s, .bool b, .slice A0 n0 c0, .slice A1 n1 c1, .slice A2 n2 c2, .slice A3 n3 c3, .slice A4 n4 c4, .slice A5 n5 c5, .slice A6 n6 c6, .slice A7 n7 c7, .slice A8 n8 c8] 28) = w1 := ⟨_, rfl⟩
  obtain ⟨g, hg⟩ : ∃ g, w.heap.size = g := ⟨_, rfl⟩
  have hb1 : Below w.heap.size w w1 := by rw [← hw1]; exact bl_one _
  have hc : Cells w1 g #[.string s, .bool b, .slice A0 n0 c0, .slice A1 n1 c1, .slice A2 n2 c2, .slice A3 n3 c3, .slice A4 n4 c4, .slice A5 n5 c5, .slice A6 n6 c6, .slice A7 n7 c7, .slice A8 n8 c8].toList := by rw [← hw1, ← hg]; exact Cells.new w #[.string s, .bool b, .slice A0 n0 c0, .slice A1 n1 c1, .slice A2 n2 c2, .slice A3 n3 c3, .slice A4 n4 c4, .slice A5 n5 c5, .slice A6 n6 c6, .slice A7 n7 c7, .slice A8 n8 c8].toList _
  obtain ⟨e0, e1, e2, e3, e4, e5, e6, e7, e8, e9, e10⟩ : w1.cell? ⟨g, 0, none⟩ = some (.string s) ∧ w1.cell? ⟨g, 1, none⟩ = some (.bool b) ∧ w1.cell? ⟨g, 2, none⟩ = some (.slice A0 n0 c0) ∧ w1.cell? ⟨g, 3, none⟩ = some (.slice A1 n1 c1) ∧ w1.cell? ⟨g, 4, none⟩ = some (.slice A2 n2 c2) ∧ w1.cell? ⟨g, 5, none⟩ = some (.slice A3 n3 c3) ∧ w1.cell? ⟨g, 6, none⟩ = some (.slice A4 n4 c4) ∧ w1.cell? ⟨g, 7, none⟩ = some (.slice A5 n5 c5) ∧ w1.cell? ⟨g, 8, none⟩ = some (.slice A6 n6 c6) ∧ w1.cell? ⟨g, 9, none⟩ = some (.slice A7 n7 c7) ∧ w1.cell? ⟨g, 10, none⟩ = some (.slice A8 n8 c8) := ⟨hc.at_ 0 _ rfl, hc.at_ 1 _ rfl, hc.at_ 2 _ rfl, hc.at_ 3 _ rfl, hc.at_ 4 _ rfl, hc.at_ 5 _ rfl, hc.at_ 6 _ rfl, hc.at_ 7 _ rfl, hc.at_ 8 _ rfl, hc.at_ 9 _ rfl, hc.at_ 10 _ rfl⟩
  have HB := Lib.hid hb1
  have k1 : (n1 : Int) ≤ 300 := by omega
  have k2 : (n2 : Int) ≤ 300 := by omega
  have k4 : (n4 : Int) ≤ 150 := by omega
  have p1 : (0 : Int) ≤ (n1 : Int) := by omega
  have p2 : (0 : Int) ≤ (n2 : Int) := by omega
  have p4 : (0 : Int) ≤ (n4 : Int) := by omega
  have HV : Hid ((n4 : Int) + n1 + n2 + 1 = ((n1 + 1 + n4 + n2 : Nat) : Int)) := Lib.hid (by omega)
  clear hc hb1
  go_enter Try.func15, Try.ntmps15
  go_wp2_with fail
  go_ret
  exact ⟨by rw [← HV.out]; rfl, HB.out⟩
set_option maxRecDepth 100000 in
set_option maxHeartbeats 4000000 in
theorem rslots_any (s : ByteArray) (b : Bool) (A0 : Option Addr) (n0 c0 : Nat) (A1 : Option Addr) (n1 c1 : Nat) (A2 : Option Addr) (n2 c2 : Nat) (A3 : Option Addr) (n3 c3 : Nat) (A4 : Option Addr) (n4 c4 : Nat) (A5 : Option Addr) (n5 c5 : Nat) (A6 : Option Addr) (n6 c6 : Nat) (A7 : Option Addr) (n7 c7 : Nat) (A8 : Option Addr) (n8 c8 : Nat) (x : DFunc) (w : World) (h : FnW w w.heap.size s b A0 n0 c0 A1 n1 c1 A2 n2 c2 A3 n3 c3 A4 n4 c4 A5 n5 c5 A6 n6 c6 A7 n7 c7 A8 n8 c8 x) : Calls Try.prog 33 #[.agg #[.string s, .bool b, .slice A0 n0 c0, .slice A1 n1 c1, .slice A2 n2 c2, .slice A3 n3 c3, .slice A4 n4 c4, .slice A5 n5 c5, .slice A6 n6 c6, .slice A7 n7 c7, .slice A8 n8 c8]] w (IsTRow (n1 + n2 + n3) (slotsM x) w) := by
  obtain ⟨i0, hi, hz0, hz1, hz2⟩ := info_parts info_ty
  obtain ⟨w1, hw1⟩ : ∃ w1, w.alloc (.cells #[.string s, .bool b, .slice A0 n0 c0, .slice A1 n1 c1, .slice A2 n2 c2, .slice A3 n3 c3, .slice A4 n4 c4, .slice A5 n5 c5, .slice A6 n6 c6, .slice A7 n7 c7, .slice A8 n8 c8] 28) = w1 := ⟨_, rfl⟩
  obtain ⟨g, hg⟩ : ∃ g, w.heap.size = g := ⟨_, rfl⟩
  have b1 : Below w.heap.size w w1 := by rw [← hw1]; exact bl_one _
  have hc : Cells w1 g #[.string s, .bool b, .slice A0 n0 c0, .slice A1 n1 c1, .slice A2 n2 c2, .slice A3 n3 c3, .slice A4 n4 c4, .slice A5 n5 c5, .slice A6 n6 c6, .slice A7 n7 c7, .slice A8 n8 c8].toList := by rw [← hw1, ← hg]; exact Cells.new w #[.string s, .bool b, .slice A0 n0 c0, .slice A1 n1 c1, .slice A2 n2 c2, .slice A3 n3 c3, .slice A4 n4 c4, .slice A5 n5 c5, .slice A6 n6 c6, .slice A7 n7 c7, .slice A8 n8 c8].toList _
  have h1 := (h.keep b1).more b1.size
  obtain ⟨_, _, _, _, _, hsm⟩ := h.sm
  have S1 := src_sl h1.r1 (Nat.le_refl _)
  have S2 := src_sl h1.r2 (Nat.le_refl _)
  have S3 := src_sl h1.r3 (Nat.le_refl _)
  have HB := Lib.hid b1
  have hx : Hid (slotsM x = (x.params.flatMap iC ++ x.results.flatMap iC) ++ x.locals.flatMap iC) := Lib.hid rfl
  rw [hx.out]
  have O1 := Lib.hid (one_ty x.params)
  have O2 := Lib.hid (one_ty x.results)
  have O3 := Lib.hid (one_ty x.locals)
  generalize x.params.flatMap iC = xs at *
  generalize x.results.flatMap iC = ys at *
  generalize x.locals.flatMap iC = zs at *
  have y3 := hc.at_ 3 _ rfl
  have HC := Lib.hid hc
  have HZ : Hid (w.heap.size ≤ w1.heap.size) := Lib.hid b1.size
  clear b1 hc h1 h hx
  go_enter Try.func33, Try.ntmps33
  go_wp2_with (first
    | (at_builtin; (refine wpList_append_src _ rfl _ _ 22 rfl w1.heap.size 56 i0 (.int .i64 0) 1 8 Try.underlying22 hi hz0 hz1 hz2 rfl (by decide) _ _ _ rfl (World.ownsRow_nil _ _ _ _) A1 n1 c1 xs rfl (S1.out _ (Below.refl _ _)) O1.out (by unfold maxLen; omega) (by omega) (Nat.le_refl _) ?_)
       intro v1 w2 hown1 hgrow1 hat1
       rw [List.nil_append, Nat.zero_add] at hown1
       obtain ⟨B1, d1, rfl, o1, b1⟩ := app2 (Below.refl _ _) hown1 hgrow1 (fun j hj => by cases hj)
       have P1 := Lib.hid o1
       have B1' := Lib.hid b1
       have hs1 := B1'.out.size
       have y4 := (HC.out.on b1).at_ 4 _ rfl
       clear hown1 hgrow1 hat1 o1 b1)
    | (at_builtin; (refine wpList_append_src _ rfl _ _ 22 rfl w1.heap.size 56 i0 (.int .i64 0) 1 8 Try.underlying22 hi hz0 hz1 hz2 rfl (by decide) _ _ _ rfl P1.out A2 n2 c2 ys rfl (S2.out _ B1'.out) O2.out (by unfold maxLen; omega) (by omega) hs1 ?_)
       intro v2 w3 hown2 hgrow2 hat2
       obtain ⟨B2, d2, rfl, o2, b2⟩ := app2 B1'.out hown2 hgrow2 (fun j hj => (P1.out.lt j hj).1)
       have P2 := Lib.hid o2
       have B2' := Lib.hid b2
       have hs2 := B2'.out.size
       have y5 := (HC.out.on b2).at_ 5 _ rfl
       clear hown2 hgrow2 hat2 o2 b2)
    | (at_builtin; (refine wpList_append_src _ rfl _ _ 22 rfl w1.heap.size 56 i0 (.int .i64 0) 1 8 Try.underlying22 hi hz0 hz1 hz2 rfl (by decide) _ _ _ rfl P2.out A3 n3 c3 zs rfl (S3.out _ B2'.out) O3.out (by unfold maxLen; omega) (by omega) hs2 ?_)
       intro v3 w4 hown3 hgrow3 hat3
       obtain ⟨B3, d3, rfl, o3, b3⟩ := app2 B2'.out hown3 hgrow3 (fun j hj => (P2.out.lt j hj).1)
       have P3 := Lib.hid o3
       have B3' := Lib.hid b3
       clear hown3 hgrow3 hat3 o3 b3)
    | fail)
  go_ret
  exact ⟨_, _, rfl, by have h3 := own_less P3.out HZ.out; rw [List.append_assoc] at h3; exact h3, bl_trans HB.out HB.out.size B3'.out⟩
set_option maxRecDepth 100000 in
set_option maxHeartbeats 4000000 in
theorem rown_any (s : ByteArray) (b : Bool) (A0 : Option Addr) (n0 c0 : Nat) (A1 : Option Addr) (n1 c1 : Nat) (A2 : Option Addr) (n2 c2 : Nat) (A3 : Option Addr) (n3 c3 : Nat) (A4 : Option Addr) (n4 c4 : Nat) (A5 : Option Addr) (n5 c5 : Nat) (A6 : Option Addr) (n6 c6 : Nat) (A7 : Option Addr) (n7 c7 : Nat) (A8 : Option Addr) (n8 c8 : Nat) (x : DFunc) (w : World) (h : FnW w w.heap.size s b A0 n0 c0 A1 n1 c1 A2 n2 c2 A3 n3 c3 A4 n4 c4 A5 n5 c5 A6 n6 c6 A7 n7 c7 A8 n8 c8 x) (hok : n6 + n7 + n8 = 0 ∨ 1 ≤ n6) : Calls Try.prog 17 #[.agg #[.string s, .bool b, .slice A0 n0 c0, .slice A1 n1 c1, .slice A2 n2 c2, .slice A3 n3 c3, .slice A4 n4 c4, .slice A5 n5 c5, .slice A6 n6 c6, .slice A7 n7 c7, .slice A8 n8 c8]] w fun e w' => e = .returned (.int .i64 (ownM x (n1 + n2 + n3))) ∧ Below w.heap.size w w' := by
  obtain ⟨w1, hw1⟩ : ∃ w1, w.alloc (.cells #[.string s, .bool b, .slice A0 n0 c0, .slice A1 n1 c1, .slice A2 n2 c2, .slice A3 n3 c3, .slice A4 n4 c4, .slice A5 n5 c5, .slice A6 n6 c6, .slice A7 n7 c7, .slice A8 n8 c8] 28) = w1 := ⟨_, rfl⟩
  obtain ⟨g, hg⟩ : ∃ g, w.heap.size = g := ⟨_, rfl⟩
  have hb1 : Below w.heap.size w w1 := by rw [← hw1]; exact bl_one _
  have hc : Cells w1 g #[.string s, .bool b, .slice A0 n0 c0, .slice A1 n1 c1, .slice A2 n2 c2, .slice A3 n3 c3, .slice A4 n4 c4, .slice A5 n5 c5, .slice A6 n6 c6, .slice A7 n7 c7, .slice A8 n8 c8].toList := by rw [← hw1, ← hg]; exact Cells.new w #[.string s, .bool b, .slice A0 n0 c0, .slice A1 n1 c1, .slice A2 n2 c2, .slice A3 n3 c3, .slice A4 n4 c4, .slice A5 n5 c5, .slice A6 n6 c6, .slice A7 n7 c7, .slice A8 n8 c8].toList _
  obtain ⟨e0, e1, e2, e3, e4, e5, e6, e7, e8, e9, e10⟩ : w1.cell? ⟨g, 0, none⟩ = some (.string s) ∧ w1.cell? ⟨g, 1, none⟩ = some (.bool b) ∧ w1.cell? ⟨g, 2, none⟩ = some (.slice A0 n0 c0) ∧ w1.cell? ⟨g, 3, none⟩ = some (.slice A1 n1 c1) ∧ w1.cell? ⟨g, 4, none⟩ = some (.slice A2 n2 c2) ∧ w1.cell? ⟨g, 5, none⟩ = some (.slice A3 n3 c3) ∧ w1.cell? ⟨g, 6, none⟩ = some (.slice A4 n4 c4) ∧ w1.cell? ⟨g, 7, none⟩ = some (.slice A5 n5 c5) ∧ w1.cell? ⟨g, 8, none⟩ = some (.slice A6 n6 c6) ∧ w1.cell? ⟨g, 9, none⟩ = some (.slice A7 n7 c7) ∧ w1.cell? ⟨g, 10, none⟩ = some (.slice A8 n8 c8) := ⟨hc.at_ 0 _ rfl, hc.at_ 1 _ rfl, hc.at_ 2 _ rfl, hc.at_ 3 _ rfl, hc.at_ 4 _ rfl, hc.at_ 5 _ rfl, hc.at_ 6 _ rfl, hc.at_ 7 _ rfl, hc.at_ 8 _ rfl, hc.at_ 9 _ rfl, hc.at_ 10 _ rfl⟩
  have HB := Lib.hid hb1
  have h1 := (h.keep hb1).more hb1.size
  have hl := h.r6.1
  obtain ⟨_, _, s6, s7, s8, s0⟩ := h.sm
  by_cases h0 : n6 + n7 + n8 = 0
  · have HV : Hid (ownM x (n1 + n2 + n3) = ((n1 + n2 + n3 : Nat) : Int)) := Lib.hid (by unfold ownM; rw [List.eq_nil_of_length_eq_zero (by omega : x.nodes.length = 0)])
    have cB := Lib.hid (rbare_any s b A0 n0 c0 A1 n1 c1 A2 n2 c2 A3 n3 c3 A4 n4 c4 A5 n5 c5 A6 n6 c6 A7 n7 c7 A8 n8 c8 w1 (by omega) (by omega) (by omega) true (by simp [h0]))
    have cS := Lib.hid (fun W (hW : Below w1.heap.size w1 W) => rslots_any s b A0 n0 c0 A1 n1 c1 A2 n2 c2 A3 n3 c3 A4 n4 c4 A5 n5 c5 A6 n6 c6 A7 n7 c7 A8 n8 c8 x W ((h1.keep hW).more hW.size))
    have HE : Hid (∀ W, Below w1.heap.size w1 W → Cells W g #[.string s, .bool b, .slice A0 n0 c0, .slice A1 n1 c1, .slice A2 n2 c2, .slice A3 n3 c3, .slice A4 n4 c4, .slice A5 n5 c5, .slice A6 n6 c6, .slice A7 n7 c7, .slice A8 n8 c8].toList) := Lib.hid fun W hW => hc.on hW
    clear h0 hc h h1 hb1 hok e0 e1 e2 e3 e4 e5 e6 e7 e8 e9 e10
    obtain ⟨e0, e1, e2, e3, e4, e5, e6, e7, e8, e9, e10⟩ : w1.cell? ⟨g, 0, none⟩ = some (.string s) ∧ w1.cell? ⟨g, 1, none⟩ = some (.bool b) ∧ w1.cell? ⟨g, 2, none⟩ = some (.slice A0 n0 c0) ∧ w1.cell? ⟨g, 3, none⟩ = some (.slice A1 n1 c1) ∧ w1.cell? ⟨g, 4, none⟩ = some (.slice A2 n2 c2) ∧ w1.cell? ⟨g, 5, none⟩ = some (.slice A3 n3 c3) ∧ w1.cell? ⟨g, 6, none⟩ = some (.slice A4 n4 c4) ∧ w1.cell? ⟨g, 7, none⟩ = some (.slice A5 n5 c5) ∧ w1.cell? ⟨g, 8, none⟩ = some (.slice A6 n6 c6) ∧ w1.cell? ⟨g, 9, none⟩ = some (.slice A7 n7 c7) ∧ w1.cell? ⟨g, 10, none⟩ = some (.slice A8 n8 c8) := by
      have hq := HE.out w1 (Below.refl _ _)
      exact ⟨hq.at_ 0 _ rfl, hq.at_ 1 _ rfl, hq.at_ 2 _ rfl, hq.at_ 3 _ rfl, hq.at_ 4 _ rfl, hq.at_ 5 _ rfl, hq.at_ 6 _ rfl, hq.at_ 7 _ rfl, hq.at_ 8 _ rfl, hq.at_ 9 _ rfl, hq.at_ 10 _ rfl⟩
    go_enter Try.func17, Try.ntmps17
    go_wp2_with fail
    refine cB.out.mono ?_
    rintro e w2 ⟨rfl, hb2⟩
    have HB2 := Lib.hid hb2
    clear e0 e1 e2 e3 e4 e5 e6 e7 e8 e9 e10
    obtain ⟨e0, e1, e2, e3, e4, e5, e6, e7, e8, e9, e10⟩ : w2.cell? ⟨g, 0, none⟩ = some (.string s) ∧ w2.cell? ⟨g, 1, none⟩ = some (.bool b) ∧ w2.cell? ⟨g, 2, none⟩ = some (.slice A0 n0 c0) ∧ w2.cell? ⟨g, 3, none⟩ = some (.slice A1 n1 c1) ∧ w2.cell? ⟨g, 4, none⟩ = some (.slice A2 n2 c2) ∧ w2.cell? ⟨g, 5, none⟩ = some (.slice A3 n3 c3) ∧ w2.cell? ⟨g, 6, none⟩ = some (.slice A4 n4 c4) ∧ w2.cell? ⟨g, 7, none⟩ = some (.slice A5 n5 c5) ∧ w2.cell? ⟨g, 8, none⟩ = some (.slice A6 n6 c6) ∧ w2.cell? ⟨g, 9, none⟩ = some (.slice A7 n7 c7) ∧ w2.cell? ⟨g, 10, none⟩ = some (.slice A8 n8 c8) := by
      have hq := HE.out w2 hb2
      exact ⟨hq.at_ 0 _ rfl, hq.at_ 1 _ rfl, hq.at_ 2 _ rfl, hq.at_ 3 _ rfl, hq.at_ 4 _ rfl, hq.at_ 5 _ rfl, hq.at_ 6 _ rfl, hq.at_ 7 _ rfl, hq.at_ 8 _ rfl, hq.at_ 9 _ rfl, hq.at_ 10 _ rfl⟩
    have cS2 := Lib.hid (cS.out w2 hb2)
    clear hb2 cB cS
    go_wp2_with fail
    refine cS2.out.mono ?_
    rintro e w3 ⟨B, d, rfl, _, hb⟩
    have HB3 := Lib.hid (bl_trans HB.out HB.out.size (bl_trans HB2.out HB2.out.size hb))
    clear hb cS2
    go_wp2_with fail
    go_ret
    exact ⟨by rw [HV.out]; rfl, HB3.out⟩
  · have h6 : 1 ≤ n6 := by omega
    obtain ⟨b', off, y, rfl, hbB, hy, y0, y1, y2, y3, y4, y5, y6⟩ := sln_at h1.r6 (show 0 < n6 by omega)
    have HV : Hid (ownM x (n1 + n2 + n3) = y.to_) := Lib.hid (by
      unfold ownM
      cases hx : x.nodes with
      | nil => rw [hx] at hy; cases hy
      | cons z l => rw [hx] at hy; simp at hy; rw [hy])
    have cB := Lib.hid (rbare_any s b A0 n0 c0 A1 n1 c1 A2 n2 c2 A3 n3 c3 A4 n4 c4 A5 n5 c5 (some ⟨b', off, none⟩) n6 c6 A7 n7 c7 A8 n8 c8 w1 (by omega) (by omega) (by omega) false (by simp; omega))
    rw [Nat.zero_mul, Nat.add_zero] at y5
    have hn6 : (0 : Int) < (n6 : Int) := by omega
    have HY : Hid (∀ W, Below w1.heap.size w1 W → W.cell? ⟨b', off + 5, none⟩ = some (.int .i64 y.to_)) := Lib.hid fun W hW => (hW.cell hbB).trans y5
    have HE : Hid (∀ W, Below w1.heap.size w1 W → W.cell? ⟨g, 8, none⟩ = some (.slice (some ⟨b', off, none⟩) n6 c6)) := Lib.hid fun W hW => (hc.on hW).at_ 8 _ rfl
    obtain ⟨yt, hyt⟩ : ∃ t, y.to_ = t := ⟨_, rfl⟩
    rw [hyt] at HY HV
    clear h0 hc h h1 hb1 hy hok y0 y1 y2 y3 y4 y5 y6 h6
    go_enter Try.func17, Try.ntmps17
    go_wp2_with fail
    refine cB.out.mono ?_
    rintro e w2 ⟨rfl, hb2⟩
    have z5 := HY.out w2 hb2
    have z8 := HE.out w2 hb2
    have HB2 := Lib.hid (bl_trans HB.out HB.out.size hb2)
    clear e0 e1 e2 e3 e4 e5 e6 e7 e8 e9 e10 hb2 cB
    go_wp2_with fail
    go_ret
    exact ⟨by rw [HV.out]; rfl, HB2.out⟩
end Go.Proofs.Ythfdmpcnebjkjaa
