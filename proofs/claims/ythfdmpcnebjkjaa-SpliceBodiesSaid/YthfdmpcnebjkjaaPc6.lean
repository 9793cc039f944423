/-
  Pieces of bodies: a function's slots, its own ones, how long a piece is.
-/
import Derived.Test.YthfdmpcnebjkjaaPc4
namespace Go.Proofs.Ythfdmpcnebjkjaa
open Go.RowKit
set_option linter.unusedSimpArgs false
set_option linter.unusedVariables false
theorem info_ty : (Try.prog.info? 56).map (fun i => (i.zero, i.size, i.bytes)) = some (some (.int .i64 0), 1, 8) := by kernel_rfl
def iC (x : Int) : List Value := [.int .i64 x]
def IsTRow (n : Nat) (cells : List Value) (w : World) (e : Ending) (w' : World) : Prop := ∃ A c, e = .returned (.slice A n c) ∧ w'.ownsRow w.heap.size 56 1 (.slice A n c) n cells ∧ Below w.heap.size w w'
theorem app2 {w w1 w3 : World} {k N c : Nat} {A : Option Addr} {ys : List Value} {v' : Value} (hb : Below w.heap.size w w1) (hown' : w3.ownsRow w.heap.size 56 1 v' N ys) (hgrow : w1.grownBy w3 (Value.slice A k c).ownBlock) (hlt : ∀ j, (Value.slice A k c).ownBlock = some j → w.heap.size ≤ j) :
    ∃ A' c', v' = .slice A' N c' ∧ w3.ownsRow w.heap.size 56 1 (.slice A' N c') N ys ∧ Below w.heap.size w w3 := by
  obtain ⟨A', c', hv, _⟩ := own_form hown'
  subst hv
  exact ⟨A', c', rfl, hown', Below.grown hb hgrow hb.size hlt⟩
theorem src_sl {w : World} {B : Nat} {A : Option Addr} {n c : Nat} {xs : List Int} (h : SlI w B A n c xs) (hB : B ≤ w.heap.size) : Hid (∀ W, Below w.heap.size w W → SrcCells W A n 1 (xs.flatMap iC)) :=
  Lib.hid fun W hW => SlR.src (f := iC) (fun _ => rfl) (h.keep hW hB)
theorem one_ty (xs : List Int) : ∀ u ∈ xs.flatMap iC, u.oneCell' = true := fun u hu => by
  obtain ⟨x, _, hx⟩ := List.mem_flatMap.1 hu
  simp [iC] at hx
  subst hx
  rfl
set_option maxRecDepth 100000 in
set_option maxHeartbeats 4000000 in
theorem join_any (r : Nat) (A1 A2 A3 : Option Addr) (n1 c1 n2 c2 n3 c3 : Nat) (xs ys zs : List Value) (w : World) (S1 : Hid (∀ W, Below w.heap.size w W → SrcCells W A1 n1 1 xs)) (S2 : Hid (∀ W, Below w.heap.size w W → SrcCells W A2 n2 1 ys)) (S3 : Hid (∀ W, Below w.heap.size w W → SrcCells W A3 n3 1 zs))
    (O1 : Hid (∀ u ∈ xs, u.oneCell' = true)) (O2 : Hid (∀ u ∈ ys, u.oneCell' = true)) (O3 : Hid (∀ u ∈ zs, u.oneCell' = true)) (hn : n1 + n2 + n3 ≤ 1000) (h0 : w.cell? ⟨r, 0, none⟩ = some (.slice A1 n1 c1)) (h1 : w.cell? ⟨r, 1, none⟩ = some (.slice A2 n2 c2)) (h2 : w.cell? ⟨r, 2, none⟩ = some (.slice A3 n3 c3)) : Calls Try.prog 48 #[.slice (some ⟨r, 0, none⟩) 3 3] w (IsTRow (n1 + n2 + n3) (xs ++ ys ++ zs) w) := by
  obtain ⟨i0, hi, hz0, hz1, hz2⟩ := info_parts info_ty
  have hr0 : r < w.heap.size := World.block_lt_of_cell? _ _ h0
  have HR := Lib.hid hr0
  clear hr0
  go_enter Try.func48, Try.ntmps48
  go_wp2_with fail
  refine wp_loop_rounds 4 ?_
  rw [rounds_succ]
  go_wp2_with (first
    | (at_builtin; go_must (refine wpList_append_src _ rfl _ _ 22 rfl w.heap.size 56 i0 (.int .i64 0) 1 8 Try.underlying22 hi hz0 hz1 hz2 rfl (by decide) _ _ _ rfl (World.ownsRow_nil _ _ _ _) A1 n1 c1 xs rfl (S1.out _ (Below.refl _ _)) O1.out (by unfold maxLen; omega) (by omega) (Nat.le_refl _) ?_)
       intro v1 w1 hown1 hgrow1 hat1
       rw [List.nil_append, Nat.zero_add] at hown1
       obtain ⟨B1, d1, rfl, o1, b1⟩ := app2 (Below.refl _ _) hown1 hgrow1 (fun j hj => by cases hj)
       have P1 := Lib.hid o1
       have B1' := Lib.hid b1
       have q1 : w1.cell? ⟨r, 1, none⟩ = some (.slice A2 n2 c2) := (b1.cell HR.out).trans h1
       have q2 : w1.cell? ⟨r, 2, none⟩ = some (.slice A3 n3 c3) := (b1.cell HR.out).trans h2
       clear hown1 hgrow1 hat1 o1 b1)
    | fail)
  rw [rounds_succ]
  have hs1 := B1'.out.size
  go_wp2_with (first
    | (at_builtin; go_must (refine wpList_append_src _ rfl _ _ 22 rfl w.heap.size 56 i0 (.int .i64 0) 1 8 Try.underlying22 hi hz0 hz1 hz2 rfl (by decide) _ _ _ rfl P1.out A2 n2 c2 ys rfl (S2.out _ B1'.out) O2.out (by unfold maxLen; omega) (by omega) hs1 ?_)
       intro v2 w2 hown2 hgrow2 hat2
       obtain ⟨B2, d2, rfl, o2, b2⟩ := app2 B1'.out hown2 hgrow2 (fun j hj => (P1.out.lt j hj).1)
       have P2 := Lib.hid o2
       have B2' := Lib.hid b2
       have p2 : w2.cell? ⟨r, 2, none⟩ = some (.slice A3 n3 c3) := (b2.cell HR.out).trans h2
       clear hown2 hgrow2 hat2 o2 b2)
    | fail)
  rw [rounds_succ]
  have hs2 := B2'.out.size
  go_wp2_with (first
    | (at_builtin; go_must (refine wpList_append_src _ rfl _ _ 22 rfl w.heap.size 56 i0 (.int .i64 0) 1 8 Try.underlying22 hi hz0 hz1 hz2 rfl (by decide) _ _ _ rfl P2.out A3 n3 c3 zs rfl (S3.out _ B2'.out) O3.out (by unfold maxLen; omega) (by omega) hs2 ?_)
       intro v3 w3 hown3 hgrow3 hat3
       obtain ⟨B3, d3, rfl, o3, b3⟩ := app2 B2'.out hown3 hgrow3 (fun j hj => (P2.out.lt j hj).1)
       have P3 := Lib.hid o3
       have B3' := Lib.hid b3
       clear hown3 hgrow3 hat3 o3 b3)
    | fail)
  rw [rounds_succ]
  go_wp2_with fail
  go_ret
  exact ⟨_, _, rfl, P3.out, B3'.out⟩
def slotsM (x : DFunc) : List Value := (x.params.flatMap iC ++ x.results.flatMap iC) ++ x.locals.flatMap iC
set_option maxRecDepth 100000 in
set_option maxHeartbeats 4000000 in
theorem fslots_any (s : ByteArray) (b : Bool) (A0 : Option Addr) (n0 c0 : Nat) (A1 : Option Addr) (n1 c1 : Nat) (A2 : Option Addr) (n2 c2 : Nat) (A3 : Option Addr) (n3 c3 : Nat) (A4 : Option Addr) (n4 c4 : Nat) (A5 : Option Addr) (n5 c5 : Nat) (A6 : Option Addr) (n6 c6 : Nat) (A7 : Option Addr) (n7 c7 : Nat) (A8 : Option Addr) (n8 c8 : Nat) (x : DFunc) (w : World) (h : FnW w w.heap.size s b A0 n0 c0 A1 n1 c1 A2 n2 c2 A3 n3 c3 A4 n4 c4 A5 n5 c5 A6 n6 c6 A7 n7 c7 A8 n8 c8 x) : Calls Try.prog 28 #[.agg #[.string s, .bool b, .slice A0 n0 c0, .slice A1 n1 c1, .slice A2 n2 c2, .slice A3 n3 c3, .slice A4 n4 c4, .slice A5 n5 c5, .slice A6 n6 c6, .slice A7 n7 c7, .slice A8 n8 c8]] w (IsTRow (n1 + n2 + n3) (slotsM x) w) := by
  obtain ⟨w1, hw1⟩ : ∃ w1, (w.alloc (.cells #[.string s, .bool b, .slice A0 n0 c0, .slice A1 n1 c1, .slice A2 n2 c2, .slice A3 n3 c3, .slice A4 n4 c4, .slice A5 n5 c5, .slice A6 n6 c6, .slice A7 n7 c7, .slice A8 n8 c8] 28)).alloc (.cells #[.slice A1 n1 c1, .slice A2 n2 c2, .slice A3 n3 c3] 22) = w1 := ⟨_, rfl⟩
  obtain ⟨g, hg⟩ : ∃ g, w.heap.size = g := ⟨_, rfl⟩
  have b1 : Below w.heap.size w w1 := by rw [← hw1]; exact two_below
  have hc : Cells w1 (g + 1) [.slice A1 n1 c1, .slice A2 n2 c2, .slice A3 n3 c3] := by
    have h2 := Cells.new (w.alloc (.cells #[.string s, .bool b, .slice A0 n0 c0, .slice A1 n1 c1, .slice A2 n2 c2, .slice A3 n3 c3, .slice A4 n4 c4, .slice A5 n5 c5, .slice A6 n6 c6, .slice A7 n7 c7, .slice A8 n8 c8] 28)) [.slice A1 n1 c1, .slice A2 n2 c2, .slice A3 n3 c3] 22
    have e : (w.alloc (.cells #[.string s, .bool b, .slice A0 n0 c0, .slice A1 n1 c1, .slice A2 n2 c2, .slice A3 n3 c3, .slice A4 n4 c4, .slice A5 n5 c5, .slice A6 n6 c6, .slice A7 n7 c7, .slice A8 n8 c8] 28)).heap.size = w.heap.size + 1 := by simp
    rw [e] at h2
    rw [← hw1, ← hg]
    exact h2
  have h1 := (h.keep b1).more b1.size
  have hsm := h.sm
  have cj := join_any (g + 1) A1 A2 A3 n1 c1 n2 c2 n3 c3 _ _ _ w1 (src_sl h1.r1 (Nat.le_refl _)) (src_sl h1.r2 (Nat.le_refl _)) (src_sl h1.r3 (Nat.le_refl _)) (Lib.hid (one_ty _)) (Lib.hid (one_ty _)) (Lib.hid (one_ty _)) (by omega) (hc.at_ 0 _ rfl) (hc.at_ 1 _ rfl) (hc.at_ 2 _ rfl)
  have C1 := Lib.hid cj
  have HB := Lib.hid b1
  have hx : Hid (slotsM x = (x.params.flatMap iC ++ x.results.flatMap iC) ++ x.locals.flatMap iC) := Lib.hid rfl
  rw [hx.out]
  generalize (x.params.flatMap iC ++ x.results.flatMap iC) ++ x.locals.flatMap iC = cells at *
  have e3 : Cells w1 g #[.string s, .bool b, .slice A0 n0 c0, .slice A1 n1 c1, .slice A2 n2 c2, .slice A3 n3 c3, .slice A4 n4 c4, .slice A5 n5 c5, .slice A6 n6 c6, .slice A7 n7 c7, .slice A8 n8 c8].toList := by rw [← hw1, ← hg]; exact (Cells.new w #[.string s, .bool b, .slice A0 n0 c0, .slice A1 n1 c1, .slice A2 n2 c2, .slice A3 n3 c3, .slice A4 n4 c4, .slice A5 n5 c5, .slice A6 n6 c6, .slice A7 n7 c7, .slice A8 n8 c8].toList _).on (bl_one _)
  have y3 := e3.at_ 3 _ rfl
  have y4 := e3.at_ 4 _ rfl
  have y5 := e3.at_ 5 _ rfl
  clear cj b1 hc h1 h hx e3
  go_enter Try.func28, Try.ntmps28
  go_wp2_with fail
  refine C1.out.mono ?_
  rintro e w2 ⟨B, d, rfl, hown, hb⟩
  have HO : Hid (w2.ownsRow w.heap.size 56 1 (.slice B (n1 + n2 + n3) d) (n1 + n2 + n3) cells) := Lib.hid (own_less hown HB.out.size)
  have HB2 := Lib.hid (bl_trans HB.out HB.out.size hb)
  clear hown hb
  go_wp2_with fail
  go_ret
  exact ⟨_, _, rfl, HO.out, HB2.out⟩
def ownM (x : DFunc) (n : Nat) : Int := match x.nodes with | [] => (n : Int) | y :: _ => y.to_
set_option maxRecDepth 100000 in
set_option maxHeartbeats 4000000 in
theorem own_any (s : ByteArray) (b : Bool) (A0 : Option Addr) (n0 c0 : Nat) (A1 : Option Addr) (n1 c1 : Nat) (A2 : Option Addr) (n2 c2 : Nat) (A3 : Option Addr) (n3 c3 : Nat) (A4 : Option Addr) (n4 c4 : Nat) (A5 : Option Addr) (n5 c5 : Nat) (A6 : Option Addr) (n6 c6 : Nat) (A7 : Option Addr) (n7 c7 : Nat) (A8 : Option Addr) (n8 c8 : Nat) (x : DFunc) (w : World) (h : FnW w w.heap.size s b A0 n0 c0 A1 n1 c1 A2 n2 c2 A3 n3 c3 A4 n4 c4 A5 n5 c5 A6 n6 c6 A7 n7 c7 A8 n8 c8 x) : Calls Try.prog 16 #[.agg #[.string s, .bool b, .slice A0 n0 c0, .slice A1 n1 c1, .slice A2 n2 c2, .slice A3 n3 c3, .slice A4 n4 c4, .slice A5 n5 c5, .slice A6 n6 c6, .slice A7 n7 c7, .slice A8 n8 c8]] w fun e w' => e = .returned (.int .i64 (ownM x (n1 + n2 + n3))) ∧ Below w.heap.size w w' := by
  obtain ⟨w1, hw1⟩ : ∃ w1, w.alloc (.cells #[.string s, .bool b, .slice A0 n0 c0, .slice A1 n1 c1, .slice A2 n2 c2, .slice A3 n3 c3, .slice A4 n4 c4, .slice A5 n5 c5, .slice A6 n6 c6, .slice A7 n7 c7, .slice A8 n8 c8] 28) = w1 := ⟨_, rfl⟩
  obtain ⟨g, hg⟩ : ∃ g, w.heap.size = g := ⟨_, rfl⟩
  have hb1 : Below w.heap.size w w1 := by rw [← hw1]; exact bl_one _
  have hc : Cells w1 g #[.string s, .bool b, .slice A0 n0 c0, .slice A1 n1 c1, .slice A2 n2 c2, .slice A3 n3 c3, .slice A4 n4 c4, .slice A5 n5 c5, .slice A6 n6 c6, .slice A7 n7 c7, .slice A8 n8 c8].toList := by rw [← hw1, ← hg]; exact Cells.new w #[.string s, .bool b, .slice A0 n0 c0, .slice A1 n1 c1, .slice A2 n2 c2, .slice A3 n3 c3, .slice A4 n4 c4, .slice A5 n5 c5, .slice A6 n6 c6, .slice A7 n7 c7, .slice A8 n8 c8].toList _
  obtain ⟨e0, e1, e2, e3, e4, e5, e6, e7, e8, e9, e10⟩ : w1.cell? ⟨g, 0, none⟩ = some (.string s) ∧ w1.cell? ⟨g, 1, none⟩ = some (.bool b) ∧ w1.cell? ⟨g, 2, none⟩ = some (.slice A0 n0 c0) ∧ w1.cell? ⟨g, 3, none⟩ = some (.slice A1 n1 c1) ∧ w1.cell? ⟨g, 4, none⟩ = some (.slice A2 n2 c2) ∧ w1.cell? ⟨g, 5, none⟩ = some (.slice A3 n3 c3) ∧ w1.cell? ⟨g, 6, none⟩ = some (.slice A4 n4 c4) ∧ w1.cell? ⟨g, 7, none⟩ = some (.slice A5 n5 c5) ∧ w1.cell? ⟨g, 8, none⟩ = some (.slice A6 n6 c6) ∧ w1.cell? ⟨g, 9, none⟩ = some (.slice A7 n7 c7) ∧ w1.cell? ⟨g, 10, none⟩ = some (.slice A8 n8 c8) := ⟨hc.at_ 0 _ rfl, hc.at_ 1 _ rfl, hc.at_ 2 _ rfl, hc.at_ 3 _ rfl, hc.at_ 4 _ rfl, hc.at_ 5 _ rfl, hc.at_ 6 _ rfl, hc.at_ 7 _ rfl, hc.at_ 8 _ rfl, hc.at_ 9 _ rfl, hc.at_ 10 _ rfl⟩
  have HB := Lib.hid hb1
  have h1 := (h.keep hb1).more hb1.size
  have hl := h.r6.1
  obtain ⟨_, _, s6, _, _, s0⟩ := h.sm
  have k6 : (n6 : Int) ≤ 20 := by omega
  by_cases h0 : n6 = 0
  · have t0 : ((n6 : Int) == 0) = true := by rw [beq_iff_eq]; omega
    have HV : Hid (ownM x (n1 + n2 + n3) = ((n1 + n2 + n3 : Nat) : Int)) := Lib.hid (by unfold ownM; rw [List.eq_nil_of_length_eq_zero (by omega : x.nodes.length = 0)])
    have cS := Lib.hid (fslots_any s b A0 n0 c0 A1 n1 c1 A2 n2 c2 A3 n3 c3 A4 n4 c4 A5 n5 c5 A6 n6 c6 A7 n7 c7 A8 n8 c8 x w1 h1)
    clear h0 hc h h1 hb1
    go_enter Try.func16, Try.ntmps16
    go_wp2_with fail
    refine cS.out.mono ?_
    rintro e w2 ⟨B, d, rfl, _, hb⟩
    have HB2 := Lib.hid (bl_trans HB.out HB.out.size hb)
    clear hb cS
    go_wp2_with fail
    go_ret
    exact ⟨by rw [HV.out]; rfl, HB2.out⟩
  · have t0 : ((n6 : Int) == 0) = false := by rw [beq_eq_false_iff_ne]; omega
    obtain ⟨b', off, y, rfl, _, hy, y0, y1, y2, y3, y4, y5, y6⟩ := sln_at h1.r6 (show 0 < n6 by omega)
    have HV : Hid (ownM x (n1 + n2 + n3) = y.to_) := Lib.hid (by
      unfold ownM
      cases hx : x.nodes with
      | nil => rw [hx] at hy; cases hy
      | cons z l => rw [hx] at hy; simp at hy; rw [hy])
    rw [Nat.zero_mul, Nat.add_zero] at y0 y1 y2 y3 y4 y5 y6
    have hn6 : (0 : Int) < (n6 : Int) := by omega
    obtain ⟨yp, yf, yl, yo, yg, yt, yr⟩ := y
    dsimp only at y0 y1 y2 y3 y4 y5 y6 HV
    clear h0 hc h h1 hb1 hy
    go_enter Try.func16, Try.ntmps16
    go_wp2_with fail
    go_ret
    exact ⟨by rw [HV.out]; rfl, HB.out⟩
set_option maxRecDepth 100000 in
set_option maxHeartbeats 4000000 in
theorem long_any (s : ByteArray) (b : Bool) (A0 : Option Addr) (n0 c0 : Nat) (A1 : Option Addr) (n1 c1 : Nat) (A2 : Option Addr) (n2 c2 : Nat) (A3 : Option Addr) (n3 c3 : Nat) (A4 : Option Addr) (n4 c4 : Nat) (A5 : Option Addr) (n5 c5 : Nat) (A6 : Option Addr) (n6 c6 : Nat) (A7 : Option Addr) (n7 c7 : Nat) (A8 : Option Addr) (n8 c8 : Nat) (w : World) (h1 : n1 ≤ 300) (h2 : n2 ≤ 300) (h4 : n4 ≤ 150) : Calls Try.prog 14 #[.agg #[.string s, .bool b, .slice A0 n0 c0, .slice A1 n1 c1, .slice A2 n2 c2, .slice A3 n3 c3, .slice A4 n4 c4, .slice A5 n5 c5, .slice A6 n6 c6, .slice A7 n7 c7, .slice A8 n8 c8]] w fun e w' => e = .returned (.int .i64 ((n1 + 1 + n4 + n2 : Nat) : Int)) ∧ Below w.heap.size w w' := by
  obtain ⟨w1, hw1⟩ : ∃ w1, w.alloc (.cells #[.string s, .bool b, .slice A0 n0 c0, .slice A1 n1 c1, .slice A2 n2 c2, .slice A3 n3 c3, .slice A4 n4 c4, .slice A5 n5 c5, .slice A6 n6 c6, .slice A7 n7 c7, .slice A8 n8 c8] 28) = w1 := ⟨_, rfl⟩
  obtain ⟨g, hg⟩ : ∃ g, w.heap.size = g := ⟨_, rfl⟩
  have hb1 : Below w.heap.size w w1 := by rw [← hw1]; exact bl_one _
  have hc : Cells w1 g #[.string s, .bool b, .slice A0 n0 c0, .slice A1 n1 c1, .slice A2 n2 c2, .slice A3 n3 c3, .slice A4 n4 c4, .slice A5 n5 c5, .slice A6 n6 c6, .slice A7 n7 c7, .slice A8 n8 c8].toList := by rw [← hw1, ← hg]; exact Cells.new w #[.string s, .bool b, .slice A0 n0 c0, .slice A1 n1 c1, .slice A2 n2 c2, .slice A3 n3 c3, .slice A4 n4 c4, .slice A5 n5 c5, .slice A6 n6 c6, .slice A7 n7 c7, .slice A8 n8 c8].toList _
  obtain ⟨e0, e1, e2, e3, e4, e5, e6, e7, e8, e9, e10⟩ : w1.cell? ⟨g, 0, none⟩ = some (.string s) ∧ w1.cell? ⟨g, 1, none⟩ = some (.bool b) ∧ w1.cell? ⟨g, 2, none⟩ = some (.slice A0 n0 c0) ∧ w1.cell? ⟨g, 3, none⟩ = some (.slice A1 n1 c1) ∧ w1.cell? ⟨g, 4, none⟩ = some (.slice A2 n2 c2) ∧ w1.cell? ⟨g, 5, none⟩ = some (.slice A3 n3 c3) ∧ w1.cell? ⟨g, 6, none⟩ = some (.slice A4 n4 c4) ∧ w1.cell? ⟨g, 7, none⟩ = some (.slice A5 n5 c5) ∧ w1.cell? ⟨g, 8, none⟩ = some (.slice A6 n6 c6) ∧ w1.cell? ⟨g, 9, none⟩ = some (.slice A7 n7 c7) ∧ w1.cell? ⟨g, 10, none⟩ = some (.slice A8 n8 c8) := ⟨hc.at_ 0 _ rfl, hc.at_ 1 _ rfl, hc.at_ 2 _ rfl, hc.at_ 3 _ rfl, hc.at_ 4 _ rfl, hc.at_ 5 _ rfl, hc.at_ 6 _ rfl, hc.at_ 7 _ rfl, hc.at_ 8 _ rfl, hc.at_ 9 _ rfl, hc.at_ 10 _ rfl⟩
  have HB := Lib.hid hb1
  have k1 : (n1 : Int) ≤ 300 := by omega
  have k2 : (n2 : Int) ≤ 300 := by omega
  have k4 : (n4 : Int) ≤ 150 := by omega
  have p1 : (0 : Int) ≤ (n1 : Int) := by omega
  have p2 : (0 : Int) ≤ (n2 : Int) := by omega
  have p4 : (0 : Int) ≤ (n4 : Int) := by omega
  clear hc hb1
  go_enter Try.func14, Try.ntmps14
  go_wp2_with fail
  go_ret
  exact ⟨by simp only [Int.natCast_add]; rfl, HB.out⟩
end Go.Proofs.Ythfdmpcnebjkjaa
