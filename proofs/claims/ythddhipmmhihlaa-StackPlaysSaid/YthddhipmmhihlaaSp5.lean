/-
  The flat stack: the values on top; the chapter's example; what a round of the law keeps.
-/
import Derived.Test.YthddhipmmhihlaaSp4
import Derived.Test.YthddhipmmhihlaaDfT
namespace Go.Proofs.Ythddhipmmhihlaa
open Go.RowKit
set_option linter.unusedSimpArgs false
set_option linter.unusedVariables false
attribute [local go_sem] run_store_cplx
set_option maxRecDepth 100000 in
set_option maxHeartbeats 2000000 in
theorem top_any (g c : Nat) (A : Option Addr) (vs : List DV) (m : Int) (w : World) (h : SkW w g A c vs) (hn : vs.length ≤ 1000) :
    Calls Try.prog 29 #[.pointer (some ⟨g, 0, none⟩), .int .i64 m] w (IsRowS (vs.drop (vs.length - (min (max m 0) vs.length).toNat)) w) := by
  have cl := Lib.hid (len_box g A vs.length c w h.c0 hn)
  obtain ⟨k, hk⟩ : ∃ k : Nat, min (max m 0) (vs.length : Int) = (k : Int) := ⟨(min (max m 0) (vs.length : Int)).toNat, by omega⟩
  rw [hk, Int.toNat_natCast]
  have hkn : (k : Int) ≤ vs.length := by omega
  have cr := rowS_any g c A vs ((vs.length : Int) - k) (vs.length : Int) w h hn
  have hE : extM vs ((vs.length : Int) - k) (vs.length : Int) = vs.drop (vs.length - k) := by
    unfold extM
    rw [show (min (vs.length : Int) (vs.length : Int)).toNat = vs.length by omega, List.take_length, show (max ((vs.length : Int) - k) 0).toNat = vs.length - k by omega]
  rw [hE] at cr
  have CR := Lib.hid cr
  have HK := Lib.hid hk
  generalize vs.drop (vs.length - k) = us at *
  generalize vs.length = n at *
  clear h cr hE hk
  go_enter Try.func29, Try.ntmps29
  go_upto_region 1 with fail
  go_cut [1] (fun a wx => a = .int .i64 (k : Int) ∧ wx = w)
  case first =>
    have hk := HK.out
    rcases (show m < 0 ∨ (0 ≤ m ∧ m < (n : Int)) ∨ (0 ≤ m ∧ m = (n : Int)) ∨ (0 ≤ m ∧ (n : Int) < m) by omega) with h1 | ⟨h1, h2⟩ | ⟨h1, h2⟩ | ⟨h1, h2⟩
    · have hm : max m 0 = 0 := by omega
      obtain rfl : k = 0 := by omega
      have hm2 : min 0 (n : Int) = 0 := by omega
      have hn0 : ¬ (n : Int) < 0 := by omega
      clear hk HK
      go_wp2_with fail
      refine cl.out.mono ?_
      rintro e w' ⟨rfl, rfl⟩
      go_wp2_with fail
      go_meet
      exact ⟨by first | rfl | simp, rfl⟩
    · obtain rfl : m = (k : Int) := by omega
      have hm : max (k : Int) 0 = k := by omega
      have hm2 : min (k : Int) (n : Int) = k := by omega
      have h1' : ¬ (k : Int) < 0 := by omega
      have hn0 : ¬ (n : Int) < k := by omega
      clear hk HK
      go_wp2_with fail
      refine cl.out.mono ?_
      rintro e w' ⟨rfl, rfl⟩
      go_wp2_with fail
      go_meet
      exact ⟨by first | rfl | simp, rfl⟩
    · subst h2
      obtain rfl : k = n := by omega
      have hm : max (k : Int) 0 = k := by omega
      have hm2 : min (k : Int) (k : Int) = k := by omega
      have h1' : ¬ (k : Int) < 0 := by omega
      clear hk HK
      go_wp2_with fail
      refine cl.out.mono ?_
      rintro e w' ⟨rfl, rfl⟩
      go_wp2_with fail
      go_meet
      exact ⟨by first | rfl | simp, rfl⟩
    · obtain rfl : k = n := by omega
      have hm : max m 0 = m := by omega
      have hm2 : min m (k : Int) = k := by omega
      have h1' : ¬ m < 0 := by omega
      clear hk HK
      go_wp2_with fail
      refine cl.out.mono ?_
      rintro e w' ⟨rfl, rfl⟩
      go_wp2_with fail
      go_meet
      exact ⟨by first | rfl | simp, rfl⟩
  case rest =>
    obtain ⟨rfl, rfl⟩ := hcut
    go_wp2_with fail
    refine cl.out.mono ?_
    rintro e w' ⟨rfl, rfl⟩
    go_wp2_with fail
    refine cl.out.mono ?_
    rintro e w' ⟨rfl, rfl⟩
    go_wp2_with fail
    refine CR.out.mono ?_
    rintro e w' ⟨A', c', rfl, hs, hb⟩
    have HS := Lib.hid hs
    have HB := Lib.hid hb
    clear hs hb
    go_wp2_with fail
    go_ret
    exact ⟨A', c', rfl, HS.out, HB.out⟩
theorem stack_new (w : World) : SkW (w.alloc (.cells #[.slice none 0 0] 53)) w.heap.size none 0 [] := by
  obtain ⟨q0, f0⟩ := new_cells (w := w) (cs := #[.slice none 0 0]) (t := 53) (Below.refl _ _) 0 (.slice none 0 0) rfl
  exact ⟨q0, f0, rfl, Nat.le_refl _, by unfold maxLen; omega, .inl ⟨rfl, rfl, rfl⟩⟩
theorem SkTo.below {w w1 w2 : World} {A : Option Addr} {vs : List DV} (h : SkTo w1 w.heap.size A vs w2) (hb : Below w.heap.size w w1) (hB : ∀ j, Bk w.heap.size A j → w.heap.size ≤ j) : ∃ A' c', SkW w2 w.heap.size A' c' vs ∧ Below w.heap.size w w2 ∧ ∀ j, Bk w.heap.size A' j → w.heap.size ≤ j := by
  obtain ⟨A', c', h1, h2, h3⟩ := h
  exact ⟨A', c', h1, hb.trans (h2.below hb.size hB), fun j hj => (h3 j hj).elim (hB j) (fun h => by have := hb.size; omega)⟩
theorem vn_field (k n : Int) (x y : Nat) : ∀ w, (Instr.field 45 (vV k n x y) 1).run Try.prog w = .ok (.int .i64 n) w := fun _ => by kernel_rfl
theorem vk_field (k n : Int) (x y : Nat) : ∀ w, (Instr.field 45 (vV k n x y) 0).run Try.prog w = .ok (.int .i64 k) w := fun _ => by kernel_rfl
set_option maxRecDepth 100000 in
set_option maxHeartbeats 4000000 in
theorem stack_lives (w : World) : Calls Try.prog 18 #[] w fun e w' => e = .returned (.bool true) ∧ Below w.heap.size w w' := by
  obtain ⟨w1, hw1⟩ : ∃ w1, w.alloc (.cells #[.slice none 0 0] 53) = w1 := ⟨_, rfl⟩
  have h1 : SkW w1 w.heap.size none 0 [] := by rw [← hw1]; exact stack_new w
  have hb1 : Below w.heap.size w w1 := by rw [← hw1]; exact (Below.refl _ _).alloc (Nat.le_refl _) _
  have c1 := Lib.hid (spush_any w.heap.size 0 none [] ⟨1, 1, 0, 0⟩ w1 h1 (by decide))
  have HE := Lib.hid hw1
  have HB1 := Lib.hid hb1
  have hf1 := vn_field 1 1 0 0
  have hf2 := vk_field 2 0 0 0
  clear h1 hb1 hw1
  go_enter Try.func18, Try.ntmps18
  go_wp2_with fail
  rw [HE.out]
  refine c1.out.mono ?_
  rintro e w2 ⟨⟨v2, rfl⟩, h2⟩
  obtain ⟨A2, k2, s2, b2, B2⟩ := h2.below HB1.out (fun j hj => by rcases hj with rfl | h; exact Nat.le_refl _; cases h)
  have c2 := Lib.hid (spush_any w.heap.size k2 A2 _ ⟨1, 2, 0, 0⟩ w2 s2 (by decide))
  have HB2 := Lib.hid b2
  have HBB2 := Lib.hid B2
  clear h2 s2 b2 B2 c1
  go_wp2_with fail
  refine c2.out.mono ?_
  rintro e w3 ⟨⟨v3, rfl⟩, h3⟩
  obtain ⟨A3, k3, s3, b3, B3⟩ := h3.below HB2.out HBB2.out
  have c3 := Lib.hid (cut_any w.heap.size k3 A3 _ 1 w3 s3 (by decide))
  have HB3 := Lib.hid b3
  have HBB3 := Lib.hid B3
  clear h3 s3 b3 B3 c2
  go_wp2_with fail
  refine c3.out.mono ?_
  rintro e w4 ⟨⟨v4, rfl⟩, ⟨k4, s4⟩, hk4⟩
  have s4 : SkW w4 w.heap.size A3 k4 [⟨1, 1, 0, 0⟩] := s4
  have HB4 : Hid (Below w.heap.size w w4) := Lib.hid (HB3.out.trans (hk4.below HB3.out.size (fun j e => by rw [e]; exact Nat.le_refl _)))
  have d1 := Lib.hid (len_box w.heap.size A3 1 k4 w4 s4.c0 (by decide))
  have d2 := Lib.hid (get_any w.heap.size k4 A3 _ 0 w4 s4 (by decide))
  have S4 := Lib.hid s4
  clear s4 hk4 c3
  go_wp2_with fail
  refine d1.out.mono ?_
  rintro e w' ⟨rfl, rfl⟩
  go_wp2_with fail
  refine d2.out.mono ?_
  rintro e w5 ⟨rfl, hb5⟩
  have hk45 : Kp (fun _ => False) w4 w5 := (Kp.refl _ _).ofBelow hb5
  obtain ⟨w6, hw6⟩ : ∃ w6, w5.alloc (.cells #[.int .i64 2] 38) = w6 := ⟨_, rfl⟩
  have hk46 : Kp (fun _ => False) w4 w6 := by rw [← hw6]; exact hk45.alloc _
  have hq : SlR 1 8 (RInt .i64) w6 w6.heap.size (some ⟨w5.heap.size, 0, none⟩) 1 1 [2] := by
    refine ⟨rfl, Nat.le_refl _, by unfold maxLen; omega, by unfold reachBytes; omega, fun _ => ⟨_, 0, rfl, by rw [← hw6]; simp, fun i x hi => ?_⟩⟩
    have hi0 : i = 0 := by have := (List.getElem?_eq_some_iff.1 hi).1; simp at this; omega
    subst hi0
    simp at hi
    subst hi
    refine ⟨[.int .i64 2], rfl, fun j u hj => ?_, rfl, by decide⟩
    have hj0 : j = 0 := by have := (List.getElem?_eq_some_iff.1 hj).1; simp at this; omega
    subst hj0
    simp at hj
    subst hj
    rw [← hw6]
    exact (new_cells (w := w5) (cs := #[.int .i64 2]) (t := 38) (Below.refl _ _) 0 _ rfl).1
  have s6 := S4.out.on hk46
  have c6 := Lib.hid (grow_any w.heap.size k4 1 1 _ A3 _ [2] w6 s6 (by decide) (by decide) (by decide) hq)
  have HB6 : Hid (Below w.heap.size w w6) := Lib.hid (HB4.out.trans (hk46.below HB4.out.size (fun _ h => h.elim)))
  have HE6 := Lib.hid hw6
  have e0 : aggV (getM [⟨1, 1, 0, 0⟩] 0) = vV 1 1 0 0 := rfl
  rw [e0]
  clear hb5 hk45 hw6 hk46 hq s6 d1 d2 S4 e0
  go_wp2_with fail
  rw [HE6.out]
  refine c6.out.mono ?_
  rintro e w7 ⟨rfl, h7⟩
  obtain ⟨A7, k7, s7, b7, B7⟩ := h7.below HB6.out HBB3.out
  have d7 := Lib.hid (get_any w.heap.size k7 A7 _ 1 w7 s7 (by decide))
  have HB7 := Lib.hid b7
  clear h7 s7 b7 B7 c6
  go_wp2_with fail
  refine d7.out.mono ?_
  rintro e w8 ⟨rfl, hb8⟩
  have HB8 := Lib.hid (bl_trans HB7.out HB7.out.size hb8)
  have e1 : aggV (getM ([⟨1, 1, 0, 0⟩] ++ zsM [2]) 1) = vV 2 0 0 0 := rfl
  rw [e1]
  clear hb8 d7 e1
  go_wp2_with fail
  go_ret
  exact ⟨rfl, HB8.out⟩
structure LT (w wr : World) (t : Nat) (lA : Option Addr) (n lc : Nat) : Prop where
  bw : Below w.heap.size w wr
  ex : ∃ A c vs, SkW wr w.heap.size A c vs ∧ SlV wr wr.heap.size lA n lc vs ∧ Ok wr (Bk w.heap.size A) lA ∧ n ≤ t ∧ (∀ j, Bk w.heap.size A j → w.heap.size ≤ j)
theorem LT.on {w wr wx : World} {t n lc : Nat} {lA : Option Addr} (h : LT w wr t lA n lc) (hk : Kp (fun _ => False) wr wx) : LT w wx t lA n lc := by
  obtain ⟨hb, A, c, vs, h1, h2, h3, h4, h5⟩ := h
  exact ⟨hb.trans (hk.below hb.size (fun _ h => h.elim)), A, c, vs, h1.on hk, SlR.kp h2 (Nat.le_refl _) (fun _ _ => id) hk, h3.kp hk.size (fun j hj => .inl hj), h4, h5⟩
end Go.Proofs.Ythddhipmmhihlaa
