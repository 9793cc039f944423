/-
  Order: the chapter's example; the walk of OrderSorted.
-/
import Derived.Test.YtpelnfpdchmcpaaOs7
namespace Go.Proofs.Ytpelnfpdchmcpaa
open Go.RowKit
set_option linter.unusedSimpArgs false
set_option linter.unusedVariables false
theorem lit_sites (w : World) (a b : DSite) : SlS (w.alloc (.cells #[.int .i64 a.fn, .int .i64 a.pc, .int .i64 b.fn, .int .i64 b.pc] 37)) (w.alloc (.cells #[.int .i64 a.fn, .int .i64 a.pc, .int .i64 b.fn, .int .i64 b.pc] 37)).heap.size (some ⟨w.heap.size, 0, none⟩) 2 2 [a, b] := by
  have h := World.ownsRow_lit (base := w.heap.size) (e := 37) (size := 2) w #[.int .i64 a.fn, .int .i64 a.pc, .int .i64 b.fn, .int .i64 b.pc] 2 (Nat.le_refl _) (by unfold maxLen; omega) rfl
  exact SlR.of_ownN (sz := 2) (bytes := 16) (f := cellsS) (xs := [a, b]) (fun _ => rfl) (by omega) h (by unfold reachBytes; omega)
theorem srt_two (a b : DSite) : Srt [a, b] 2 ↔ cmpS a b < 0 := by
  constructor
  · intro h
    exact h 0 a b (by omega) rfl rfl
  · intro h i x y hi hx hy
    have : i = 0 := by omega
    subst this
    simp at hx hy
    rw [← hx, ← hy]
    exact h
theorem sorted_two (w : World) (a b : DSite) (r : Bool) (hr : r = decide (cmpS a b < 0)) : Calls Try.prog 5 #[.slice (some ⟨w.heap.size, 0, none⟩) 2 2] (w.alloc (.cells #[.int .i64 a.fn, .int .i64 a.pc, .int .i64 b.fn, .int .i64 b.pc] 37)) fun e w' => e = .returned (.bool r) ∧ Below w.heap.size w w' := by
  refine (sorted_any _ 2 2 [a, b] _ (lit_sites w a b) (by omega)).mono ?_
  rintro e w' ⟨r', rfl, h1, hb⟩
  rw [srt_two] at h1
  refine ⟨?_, (bl_one _).trans (hb.mono (by simp))⟩
  have : r' = r := by
    rw [hr]
    cases r' with
    | true => rw [decide_eq_true (h1.1 rfl)]
    | false => rw [decide_eq_false (fun h => by have := h1.2 h; cases this)]
  rw [this]
set_option maxRecDepth 100000 in
set_option maxHeartbeats 2000000 in
theorem order_lives (w : World) : Calls Try.prog 4 #[] w fun e w' => e = .returned (.bool true) ∧ Below w.heap.size w w' := by
  have cP := Lib.hid (plain_one w)
  go_enter Try.func4, Try.ntmps4
  go_wp2_with fail
  refine cP.out.mono ?_
  rintro e w1 ⟨⟨b, rfl⟩, hb1⟩
  have cO := Lib.hid (of_one b w1)
  have HB1 := Lib.hid hb1
  clear hb1 cP
  go_wp2_with fail
  refine cO.out.mono ?_
  rintro e w2 ⟨⟨A, c, rfl⟩, hb2⟩
  have HB2 : Hid (Below w.heap.size w w2) := Lib.hid (HB1.out.trans (hb2.mono HB1.out.size))
  clear hb2 cO
  have cS := Lib.hid (sorted_two w2 ⟨0, 1⟩ ⟨1, 0⟩ true (by decide))
  go_wp2_with fail
  refine cS.out.mono ?_
  rintro e w3 ⟨rfl, hb3⟩
  have HB3 : Hid (Below w.heap.size w w3) := Lib.hid (HB2.out.trans (hb3.mono HB2.out.size))
  clear hb3 cS
  have cS := Lib.hid (sorted_two w3 ⟨0, 1⟩ ⟨0, 1⟩ false (by decide))
  go_wp2_with fail
  refine cS.out.mono ?_
  rintro e w4 ⟨rfl, hb4⟩
  go_wp2_with fail
  go_ret
  exact ⟨rfl, HB3.out.trans (hb4.mono HB3.out.size)⟩
set_option maxRecDepth 100000 in
set_option maxHeartbeats 4000000 in
theorem orderSorted_walk (A : Option Addr) (n c : Nat) (xs : List DSite) (f : Int) (w : World) (h0 : SlR 2 16 RSite w w.heap.size A n c xs) (hw1 : (Lit.int .i64 f).wf = true) :
    Calls Try.prog 3 #[.slice A n c, .int .i64 f] w fun e w' => e = .returned (.bool true) ∧ Below w.heap.size w w' := by
  have h := sls_of h0
  have cl := Lib.hid order_lives
  clear h0 hw1
  by_cases hn : 100 < n
  · have hn1 : (100 : Int) < (n : Int) := by omega
    clear h
    go_enter Try.func3, Try.ntmps3
    go_wp2_with fail
    refine (cl.out w).mono ?_
    rintro e w' ⟨rfl, hb⟩
    go_wp2_with fail
    go_ret
    exact ⟨rfl, hb⟩
  · have hn' : n ≤ 100 := by omega
    have hn1 : ¬ (100 : Int) < (n : Int) := by omega
    have H := Lib.hid h
    have cA := Lib.hid (sorted_any A n c xs w h hn')
    have tb : ∀ b : Bool, (b == b) = true := by simp
    clear h
    go_enter Try.func3, Try.ntmps3
    go_wp2_with fail
    refine cA.out.mono ?_
    rintro e w1 ⟨r, rfl, hr, hb1⟩
    have HB1 := Lib.hid hb1
    have HR := Lib.hid hr
    have cB := Lib.hid (rsorted_any A n c xs w1 (H.out.on hb1) hn')
    clear hb1 hr cA
    go_wp2_with fail
    refine cB.out.mono ?_
    rintro e w2 ⟨r', rfl, hr', hb2⟩
    obtain rfl : r' = r := by
      have h1 := HR.out
      cases r <;> cases r' <;> simp_all
    have HB2 : Hid (Below w.heap.size w w2) := Lib.hid (HB1.out.trans (hb2.mono HB1.out.size))
    have t1 := tb r'
    have cC := Lib.hid (within_any A n c xs f w2 (H.out.on HB2.out) hn')
    clear hb2 hr' cB HR
    go_wp2_with fail
    refine cC.out.mono ?_
    rintro e w3 ⟨A3, m3, c3, rfl, hm3, ho3, hb3⟩
    have HB3 : Hid (Below w.heap.size w w3) := Lib.hid (HB2.out.trans (hb3.mono HB2.out.size))
    have HO3 := Lib.hid ho3
    have cD := Lib.hid (rwithin_any A n c xs f w3 (H.out.on HB3.out) hn')
    clear hb3 ho3 cC
    go_wp2_with fail
    refine cD.out.mono ?_
    rintro e w4 ⟨A4, m4, c4, rfl, hm4, ho4, hb4⟩
    have HB4 : Hid (Below w.heap.size w w4) := Lib.hid (HB3.out.trans (hb4.mono HB3.out.size))
    obtain rfl : m4 = m3 := by
      have h1 := ho4.1
      have h2 := HO3.out.1
      omega
    have cE := Lib.hid (ints_same m4 c3 c4 A3 A4 _ w4 (SlI.own (own_keep HO3.out hb4) (by omega)) (SlI.own ho4 (by omega)) (by omega))
    clear hb4 ho4 cD
    go_wp2_with fail
    refine cE.out.mono ?_
    rintro e w5 ⟨rfl, hb5⟩
    have HB5 : Hid (Below w.heap.size w w5) := Lib.hid (HB4.out.trans (hb5.mono HB4.out.size))
    clear hb5 cE
    go_wp2_with fail
    refine (cl.out w5).mono ?_
    rintro e w6 ⟨rfl, hb6⟩
    go_wp2_with fail
    go_ret
    exact ⟨rfl, HB5.out.trans (hb6.mono HB5.out.size)⟩
end Go.Proofs.Ytpelnfpdchmcpaa
