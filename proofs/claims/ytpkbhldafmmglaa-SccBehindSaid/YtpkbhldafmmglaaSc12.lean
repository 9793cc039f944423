/-
  Circles: the chapter's example holds; the walk of SccOrders.
-/
import Derived.Test.YtpkbhldafmmglaaSc11
import Derived.Test.YtpkbhldafmmglaaTj3
namespace Go.Proofs.Ytpkbhldafmmglaa
open Go.RowKit
set_option linter.unusedSimpArgs false
set_option linter.unusedVariables false
theorem lit_ints (W : World) (xs : List Int) (n : Nat) (hn : xs.length = n) (h1 : n ≤ 1000) : SlI (W.alloc (.cells (xs.map (Value.int .i64)).toArray 3)) (W.alloc (.cells (xs.map (Value.int .i64)).toArray 3)).heap.size (some ⟨W.heap.size, 0, none⟩) n n xs := by
  have e : xs.map (Value.int .i64) = xs.flatMap fun x => [Value.int .i64 x] := by
    clear hn h1
    induction xs with
    | nil => rfl
    | cons a l ih => rw [List.map_cons, List.flatMap_cons, ih]; rfl
  have h := Cells.new W (xs.map (Value.int .i64)) 3
  rw [e] at h ⊢
  exact slr_of_cells (f := fun x : Int => [Value.int .i64 x]) (xs := xs) (fun _ => rfl) h hn (by simp) (by unfold maxLen; omega) (by unfold reachBytes; omega)
set_option maxRecDepth 100000 in
set_option maxHeartbeats 8000000 in
theorem scc_lives (w : World) : Calls Try.prog 6 #[] w fun e w' => e = .returned (.bool true) ∧ Below w.heap.size w w' := by
  obtain ⟨b, hb⟩ : ∃ b, w.heap.size = b := ⟨_, rfl⟩
  obtain ⟨w1, hw1⟩ : ∃ X, (((w.alloc (.cells #[.int .i64 1] 3)).alloc (.cells #[.int .i64 0] 3)).alloc (.cells #[.int .i64 0] 3)).alloc (.cells #[.slice (some ⟨b, 0, none⟩) 1 1, .slice (some ⟨b + 1, 0, none⟩) 1 1, .slice (some ⟨b + 1 + 1, 0, none⟩) 1 1] 26) = X := ⟨_, rfl⟩
  have hG : GrW w1 w1.heap.size (some ⟨b + 1 + 1 + 1, 0, none⟩) 3 3 g3 := by
    rw [← hw1]
    exact g3_mem w _ b ((((cells_new_at hb [.int .i64 1] _).on (bl_one _)).on (bl_one _)).on (bl_one _)) (((cells_new_at (by simp [hb]) [.int .i64 0] _).on (bl_one _)).on (bl_one _)) ((cells_new_at (by simp [hb]) [.int .i64 0] _).on (bl_one _)) (cells_new_at (by simp [hb]) [.slice (some ⟨b, 0, none⟩) 1 1, .slice (some ⟨b + 1, 0, none⟩) 1 1, .slice (some ⟨b + 1 + 1, 0, none⟩) 1 1] _)
  have hb1 : Below w.heap.size w w1 := by
    rw [← hw1]
    exact ((((Below.refl _ _).alloc (Nat.le_refl _) _).alloc (by simp) _).alloc (by simp; omega) _).alloc (by simp; omega) _
  have HG : Hid (∀ W, Below w1.heap.size w1 W → GrW W W.heap.size (some ⟨b + 1 + 1 + 1, 0, none⟩) 3 3 g3) := Lib.hid fun W hW => (hG.keep hW).more hW.size
  have HB1 := Lib.hid hb1
  have cL := Lib.hid (least_any (some ⟨b + 1 + 1 + 1, 0, none⟩) 3 3 g3 w1 hG (by omega) g3_small)
  have cO : Hid (∀ W, Below w1.heap.size w1 W → Calls Try.prog 8 #[.slice (some ⟨b + 1 + 1 + 1, 0, none⟩) 3 3] W (IsOrd g3 W)) := Lib.hid fun W hW => order_any _ 3 3 g3 W (HG.out W hW) (by omega) g3_small
  have cC : Hid (∀ (x : Nat) W, x < 3 → Below w1.heap.size w1 W → Calls Try.prog 11 #[.slice (some ⟨b + 1 + 1 + 1, 0, none⟩) 3 3, .int .i64 (x : Int)] W (IsCir g3 x W)) := Lib.hid fun x W hx hW => circle_any _ 3 3 g3 x W (HG.out W hW) (by omega) g3_small hx
  clear hG hb1
  go_enter Try.func6, Try.ntmps6
  go_wp2_with fail
  refine cL.out.mono ?_
  rintro e w2 ⟨h, l, rfl, hl, hc, _, hb2⟩
  have HC2 : Hid (Cells w2 h [.int .i64 0, .int .i64 0, .int .i64 2]) := Lib.hid (by rw [← g3_cells hl]; exact hc)
  have HB2 := Lib.hid hb2
  clear hl hc hb2 cL
  go_wp2_with fail
  refine (cO.out w2 HB2.out).mono ?_
  rintro e w3 ⟨OA, m, oc, o, l2, d, rfl, ho, hl2, hp, hn, hb3⟩
  have ho2 : o = [0, 2] := g3_order hl2 hp hn
  subst ho2
  obtain rfl : m = 2 := by have := ho.1; simp [rowN] at this; omega
  have HO3 := Lib.hid ho
  have HB3 : Hid (Below w1.heap.size w1 w3) := Lib.hid (HB2.out.trans (hb3.mono HB2.out.size))
  have HC3 : Hid (Cells w3 h [.int .i64 0, .int .i64 0, .int .i64 2]) := Lib.hid (HC2.out.on hb3)
  have HS3 : Hid (w2.heap.size ≤ w3.heap.size) := Lib.hid hb3.size
  clear ho hl2 hp hn hb3
  obtain ⟨w4, hw4⟩ : ∃ X, w3.alloc (.cells #[.int .i64 0, .int .i64 0, .int .i64 2] 3) = X := ⟨_, rfl⟩
  have hb4 : Below w3.heap.size w3 w4 := by rw [← hw4]; exact bl_one _
  have HB4 : Hid (Below w1.heap.size w1 w4) := Lib.hid (HB3.out.trans (hb4.mono HB3.out.size))
  have c1 := Lib.hid (ints_same 3 3 3 (some ⟨h, 0, none⟩) (some ⟨w3.heap.size, 0, none⟩) [0, 0, 2] w4 (slr_of_cells (f := fun x : Int => [Value.int .i64 x]) (xs := [0, 0, 2]) (fun _ => rfl) (HC3.out.on hb4) rfl (by have := (HC3.out.on hb4).lt; omega) (by unfold maxLen; omega) (by unfold reachBytes; omega)) (by rw [← hw4]; exact lit_ints w3 [0, 0, 2] 3 rfl (by omega)) (by omega))
  have HO4 := Lib.hid (own_keep HO3.out hb4)
  clear hb4
  go_wp2_with fail
  refine c1.out.mono ?_
  rintro e w5 ⟨rfl, hb5⟩
  have HB5 : Hid (Below w1.heap.size w1 w5) := Lib.hid (HB4.out.trans (hb5.mono HB4.out.size))
  have HO5 := Lib.hid (own_keep HO4.out hb5)
  clear hb5 c1 hw4
  obtain ⟨w6, hw6⟩ : ∃ X, w5.alloc (.cells #[.int .i64 0, .int .i64 2] 3) = X := ⟨_, rfl⟩
  have hb6 : Below w5.heap.size w5 w6 := by rw [← hw6]; exact bl_one _
  have HB6 : Hid (Below w1.heap.size w1 w6) := Lib.hid (HB5.out.trans (hb6.mono HB5.out.size))
  have c2 := Lib.hid (ints_same 2 oc 2 OA (some ⟨w5.heap.size, 0, none⟩) [0, 2] w6 (SlI.own (by have := own_keep HO5.out hb6; rw [rowN_eq] at this; exact this) (by omega)) (by rw [← hw6]; exact lit_ints w5 [0, 2] 2 rfl (by omega)) (by omega))
  clear hb6
  go_wp2_with fail
  refine c2.out.mono ?_
  rintro e w7 ⟨rfl, hb7⟩
  have HB7 : Hid (Below w1.heap.size w1 w7) := Lib.hid (HB6.out.trans (hb7.mono HB6.out.size))
  clear hb7 c2 hw6
  go_wp2_with fail
  refine (cC.out 1 w7 (by omega) HB7.out).mono ?_
  rintro e w8 ⟨r8, rfl, hr8, hb8⟩
  obtain rfl : r8 = true := hr8.2 g3_c1
  have HB8 : Hid (Below w1.heap.size w1 w8) := Lib.hid (HB7.out.trans (hb8.mono HB7.out.size))
  clear hb8 hr8
  go_wp2_with fail
  refine (cC.out 2 w8 (by omega) HB8.out).mono ?_
  rintro e w9 ⟨r9, rfl, hr9, hb9⟩
  obtain rfl : r9 = false := by
    cases r9 with
    | false => rfl
    | true => exact absurd (hr9.1 rfl) g3_c2
  have HB9 : Hid (Below w.heap.size w w9) := Lib.hid (HB1.out.trans ((HB8.out.trans (hb9.mono HB8.out.size)).mono HB1.out.size))
  clear hb9 hr9
  go_wp2_with fail
  go_ret
  exact ⟨rfl, HB9.out⟩
theorem grw_of {w : World} {B : Nat} {A : Option Addr} {n c : Nat} {g : Gr} (h : SlR 1 24 (RSl 1 8 (RInt .i64)) w B A n c g) : GrW w B A n c g :=
  h.imp fun cs x _ hr => by
    obtain ⟨A', n', c', e, q⟩ := hr
    exact ⟨A', n', c', e, q.imp fun cs x _ hr => hr.1⟩
set_option maxRecDepth 100000 in
set_option maxHeartbeats 8000000 in
theorem sccOrders_walk (GA : Option Addr) (n gc : Nat) (g : Gr) (w : World) (h0 : SlR 1 24 (RSl 1 8 (RInt .i64)) w w.heap.size GA n gc g) :
    Calls Try.prog 3 #[.slice GA n gc] w fun e w' => e = .returned (.bool true) ∧ Below w.heap.size w w' := by
  have hG := grw_of h0
  have HG : Hid (∀ W, Below w.heap.size w W → GrW W W.heap.size GA n gc g) := Lib.hid fun W hW => (hG.keep hW).more hW.size
  have cl := Lib.hid scc_lives
  have cS := Lib.hid (smallg_any w.heap.size GA n gc g w hG)
  clear hG h0
  go_enter Try.func3, Try.ntmps3
  go_wp2_with fail
  refine cS.out.mono ?_
  rintro e w' ⟨r, rfl, hr, rfl⟩
  have HR := Lib.hid hr
  clear hr cS
  cases r with
  | false =>
    go_wp2_with fail
    refine (cl.out w).mono ?_
    rintro e w' ⟨rfl, hb⟩
    go_wp2_with fail
    go_ret
    exact ⟨rfl, hb⟩
  | true =>
    obtain ⟨hnn, hrow⟩ := HR.out rfl
    have HROW := Lib.hid hrow
    have cA := Lib.hid (order_any GA n gc g w (HG.out w (Below.refl _ _)) hnn hrow)
    have cB : Hid (∀ W, Below w.heap.size w W → Calls Try.prog 9 #[.slice GA n gc] W (IsOrd g W)) := Lib.hid fun W hW => rorder_any GA n gc g W (HG.out W hW) hnn HROW.out
    clear hrow
    go_wp2_with fail
    refine cA.out.mono ?_
    rintro e w1 ⟨A1, m1, c1, o1, l1, d1, rfl, ho1, hl1, hp1, hn1, hb1⟩
    have HB1 := Lib.hid hb1
    have HX := Lib.hid (And.intro hl1 (And.intro hp1 hn1))
    have HO1 := Lib.hid ho1
    clear ho1 hl1 hp1 hn1 hb1 cA
    go_wp2_with fail
    refine (cB.out w1 HB1.out).mono ?_
    rintro e w2 ⟨A2, m2, c2, o2, l2, d2, rfl, ho2, hl2, hp2, hn2, hb2⟩
    have heq : o1 = o2 := order_same HX.out.1 hl2 HX.out.2.1 hp2 HX.out.2.2 hn2
    subst heq
    have h1 := own_keep HO1.out hb2
    have hlen := hp2.len
    obtain rfl : m2 = m1 := by have e1 := h1.1; have e2 := ho2.1; omega
    have hm : m2 ≤ 100000 := by have e2 := ho2.1; unfold rowN at e2; rw [List.length_map] at e2; have := (HG.out w (Below.refl _ _)).1; omega
    rw [rowN_eq] at h1 ho2
    have cE := Lib.hid (ints_same m2 c1 c2 A1 A2 _ w2 (SlI.own h1 hm) (SlI.own ho2 hm) hm)
    have HB2 : Hid (Below w.heap.size w w2) := Lib.hid (HB1.out.trans (hb2.mono HB1.out.size))
    clear h1 ho2 hl2 hp2 hn2 hb2 hlen hm
    go_wp2_with fail
    refine cE.out.mono ?_
    rintro e w3 ⟨rfl, hb3⟩
    have HB3 : Hid (Below w.heap.size w w3) := Lib.hid (HB2.out.trans (hb3.mono HB2.out.size))
    clear hb3 cE
    go_wp2_with fail
    refine (cl.out w3).mono ?_
    rintro e w4 ⟨rfl, hb4⟩
    go_wp2_with fail
    go_ret
    exact ⟨rfl, HB3.out.trans (hb4.mono HB3.out.size)⟩
end Go.Proofs.Ytpkbhldafmmglaa
