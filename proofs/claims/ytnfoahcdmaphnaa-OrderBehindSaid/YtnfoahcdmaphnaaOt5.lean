/-
  Order: in which order bodies are put in; the program's and the document's.
-/
import Derived.Test.YtnfoahcdmaphnaaOt4
import Derived.Test.YtnfoahcdmaphnaaSc7
import Derived.Test.YtnfoahcdmaphnaaSc10
import Derived.Test.YtnfoahcdmaphnaaTj3
namespace Go.Proofs.Ytnfoahcdmaphnaa
open Go.RowKit
set_option linter.unusedSimpArgs false
set_option linter.unusedVariables false
theorem PgW.more {w : World} {B B' : Nat} {FA : Option Addr} {fn fc : Nat} {codes : List (List DInstr)} (h : PgW w B FA fn fc codes) (hB : B ≤ B') : PgW w B' FA fn fc codes := by
  obtain ⟨h1, h2, h3, h4, h5⟩ := h
  refine ⟨h1, h2, h3, h4, fun hn => ?_⟩
  obtain ⟨b, off, hA, hb, hx⟩ := h5 hn
  refine ⟨b, off, hA, by omega, fun i x hi => ?_⟩
  obtain ⟨cs, hl, hc, hr⟩ := hx i x hi
  obtain ⟨s, b, A0, n0, c0, A1, n1, c1, A2, n2, c2, A3, n3, c3, A4, n4, c4, A5, n5, c5, A6, n6, c6, A7, n7, c7, A8, n8, c8, e, q⟩ := hr
  exact ⟨cs, hl, hc, s, b, A0, n0, c0, A1, n1, c1, A2, n2, c2, A3, n3, c3, A4, n4, c4, A5, n5, c5, A6, n6, c6, A7, n7, c7, A8, n8, c8, e, SlR.more q hB⟩
theorem PgW.on {w w' : World} {FA : Option Addr} {fn fc : Nat} {codes : List (List DInstr)} (h : PgW w w.heap.size FA fn fc codes) (hb : Below w.heap.size w w') : PgW w' w'.heap.size FA fn fc codes := (h.keep hb).more hb.size
def IsOf (codes : List (List DInstr)) (l : List DSite) (n : Nat) (w : World) (e : Ending) (w' : World) : Prop :=
  ((∃ i, i < n ∧ Rp (takesU codes l n) i i) ∧ e = .returned (.tuple #[.slice none 0 0, .int .i64 16]) ∧ Below w.heap.size w w') ∨
  ((∀ i, i < n → ¬ Rp (takesU codes l n) i i) ∧ ∃ (A : Option Addr) (m c : Nat) (o : List Nat) (lf : Nat → Nat) (d : Nat → Bool), e = .returned (.tuple #[.slice A m c, .int .i64 0]) ∧ w'.ownsRow w.heap.size 3 1 (.slice A m c) m (rowN o) ∧ LstF (takesU codes l n) lf ∧ Picks (takesU codes l n) lf d o ∧ (∀ x, ¬ Cand (takesU codes l n) lf d x) ∧ Below w.heap.size w w')
set_option maxRecDepth 100000 in
set_option maxHeartbeats 8000000 in
theorem of_any (FA : Option Addr) (fn fc : Nat) (codes : List (List DInstr)) (SA : Option Addr) (sn sc : Nat) (l : List DSite) (w : World) (h : PgW w w.heap.size FA fn fc codes) (hs : SlS w w.heap.size SA sn sc l) (hfn : fn ≤ 50) (hsn : sn ≤ 100) :
    Calls Try.prog 10 #[.agg #[.slice FA fn fc], .slice SA sn sc] w (IsOf codes l fn w) := by
  have HL : Hid (codes.length = fn) := Lib.hid h.1
  obtain ⟨w1, hw1⟩ : ∃ X, w.alloc (.cells #[.slice FA fn fc] 24) = X := ⟨_, rfl⟩
  obtain ⟨g, hg⟩ : ∃ g, w.heap.size = g := ⟨_, rfl⟩
  have hb1 : Below w.heap.size w w1 := by rw [← hw1]; exact bl_one _
  have q0 : w1.cell? ⟨g, 0, none⟩ = some (.slice FA fn fc) := by rw [← hw1, ← hg]; exact (Cells.new w [.slice FA fn fc] _).at_ 0 _ rfl
  have cT := Lib.hid (takes_any FA fn fc codes SA sn sc l w1 (h.on hb1) (SlS.on hs hb1) hfn hsn)
  have HB1 := Lib.hid hb1
  have HROW : Hid (∀ i, (rowG (takesU codes l fn) i).length ≤ 60) := Lib.hid fun i => takesU_small codes l fn i (by have := h.1; omega)
  obtain ⟨G, hG⟩ : ∃ G, takesU codes l fn = G := ⟨_, rfl⟩
  have hfb : (fn : Int) ≤ 50 := by omega
  clear h hs hb1
  go_enter Try.func10, Try.ntmps10
  go_wp2_with fail
  refine cT.out.mono ?_
  rintro e w2 ⟨A, c, rfl, hgr, hb2⟩
  rw [hG] at hgr HROW
  have HG : Hid (∀ W, Below w2.heap.size w2 W → GrW W W.heap.size A fn c G) := Lib.hid fun W hW => (hgr.keep hW).more hW.size
  have HB2 : Hid (Below w.heap.size w w2) := Lib.hid (HB1.out.trans (hb2.mono HB1.out.size))
  have cC : Hid (∀ (x : Nat) W, x < fn → Below w2.heap.size w2 W → Calls Try.prog 19 #[.slice A fn c, .int .i64 (x : Int)] W (IsCir G x W)) := Lib.hid fun x W hx hW => circle_any A fn c G x W (HG.out W hW) hfn HROW.out hx
  have cO : Hid (∀ W, Below w2.heap.size w2 W → Calls Try.prog 20 #[.slice A fn c] W (IsOrd G W)) := Lib.hid fun W hW => order_any A fn c G W (HG.out W hW) hfn HROW.out
  have HGG := Lib.hid hG
  clear hgr hb2 cT q0 hw1 hg hG
  go_wp2_with fail
  go_loopw [13] (fun iv wr => ∃ k : Nat, iv = .int .i64 k ∧ k ≤ fn ∧ Hid ((∀ i, i < k → ¬ Rp G i i) ∧ Below w2.heap.size w2 wr)) (fun iv _ => fn - (intOf iv).toNat)
  case atStart => exact ⟨0, rfl, Nat.zero_le _, Lib.hid ⟨fun i hi => by omega, Below.refl _ _⟩⟩
  case round =>
    obtain ⟨k, rfl, hk, HK⟩ := hrel
    have hk0 : (0 : Int) ≤ (k : Int) := by omega
    have HB : Hid (Below w.heap.size w wr) := Lib.hid (HB2.out.trans (HK.out.2.mono HB2.out.size))
    by_cases hlt : k < fn
    · have hkn : (k : Int) < (fn : Int) := by omega
      have cK := Lib.hid (cC.out k wr hlt HK.out.2)
      go_wp2_with fail
      refine cK.out.mono ?_
      rintro e w3 ⟨r, rfl, hr, hb3⟩
      have HR := Lib.hid hr
      have HK3 : Hid (Below w2.heap.size w2 w3) := Lib.hid (HK.out.2.trans (hb3.mono HK.out.2.size))
      have HB3 : Hid (Below w.heap.size w w3) := Lib.hid (HB.out.trans (hb3.mono HB.out.size))
      clear hr hb3 cK
      cases r with
      | true =>
        go_wp2_with fail
        go_ret2
        exact .inl ⟨⟨k, hlt, by rw [HGG.out]; exact HR.out.1 trivial⟩, rfl, HB3.out⟩
      | false =>
        go_wp2_with fail
        go_roundw
        case rel => exact ⟨k + 1, by go_num, by omega, Lib.hid ⟨fun i hi => by
          by_cases e : i = k
          · subst e
            exact fun h => by have := HR.out.2 h; cases this
          · exact HK.out.1 i (by omega), HK3.out⟩⟩
        case measure => simp [intOf]; omega
    · obtain rfl : k = fn := by omega
      have cK := Lib.hid (cO.out wr HK.out.2)
      go_wp2_with fail
      refine cK.out.mono ?_
      rintro e w3 ⟨OA, m, oc, o, lf, d, rfl, ho, hl, hp, hn, hb3⟩
      have HX := Lib.hid (And.intro ho (And.intro hl (And.intro hp hn)))
      have HB3 : Hid (Below w.heap.size w w3) := Lib.hid (HB.out.trans (hb3.mono HB.out.size))
      clear ho hl hp hn hb3 cK
      go_wp2_with fail
      go_ret2
      rw [← HGG.out] at HX HK
      exact .inr ⟨HK.out.1, OA, m, oc, o, lf, d, rfl, own_less HX.out.1 HB.out.size, HX.out.2.1, HX.out.2.2.1, HX.out.2.2.2, HB3.out⟩
theorem rComes_any (GA : Option Addr) (n gc : Nat) (g : Gr) (w : World) (hG : GrW w w.heap.size GA n gc g) (hnn : n ≤ 50) (hrow : ∀ i, (rowG g i).length ≤ 60) :
    Calls Try.prog 21 #[.slice GA n gc] w (IsComes g n w) := by
  have cC := Lib.hid (comes_any GA n gc g w hG hnn hrow)
  clear hG
  go_enter Try.func21, Try.ntmps21
  go_wp2_with fail
  refine cC.out.mono ?_
  rintro e w1 ⟨RA, rc, rb, r, rfl, hM, hR, hb1⟩
  have HX := Lib.hid (And.intro hM (And.intro hR hb1))
  clear hM hR hb1
  go_wp2_with fail
  go_ret
  exact ⟨RA, rc, rb, r, rfl, HX.out.1, HX.out.2.1, HX.out.2.2⟩
set_option maxRecDepth 100000 in
set_option maxHeartbeats 8000000 in
theorem rof_any (FA : Option Addr) (fn fc : Nat) (codes : List (List DInstr)) (SA : Option Addr) (sn sc : Nat) (l : List DSite) (w : World) (h : PgW w w.heap.size FA fn fc codes) (hs : SlS w w.heap.size SA sn sc l) (hfn : fn ≤ 50) (hsn : sn ≤ 100) :
    Calls Try.prog 11 #[.agg #[.slice FA fn fc], .slice SA sn sc] w (IsOf codes l fn w) := by
  have HL : Hid (codes.length = fn) := Lib.hid h.1
  obtain ⟨w1, hw1⟩ : ∃ X, w.alloc (.cells #[.slice FA fn fc] 24) = X := ⟨_, rfl⟩
  obtain ⟨g, hg⟩ : ∃ g, w.heap.size = g := ⟨_, rfl⟩
  have hb1 : Below w.heap.size w w1 := by rw [← hw1]; exact bl_one _
  have q0 : w1.cell? ⟨g, 0, none⟩ = some (.slice FA fn fc) := by rw [← hw1, ← hg]; exact (Cells.new w [.slice FA fn fc] _).at_ 0 _ rfl
  have cT := Lib.hid (rtakes_any FA fn fc codes SA sn sc l w1 (h.on hb1) (SlS.on hs hb1) hfn hsn)
  have HB1 := Lib.hid hb1
  have HROW : Hid (∀ i, (rowG (takesU codes l fn) i).length ≤ 60) := Lib.hid fun i => takesU_small codes l fn i (by have := h.1; omega)
  obtain ⟨G, hG⟩ : ∃ G, takesU codes l fn = G := ⟨_, rfl⟩
  have hfb : (fn : Int) ≤ 50 := by omega
  clear h hs hb1
  go_enter Try.func11, Try.ntmps11
  go_wp2_with fail
  refine cT.out.mono ?_
  rintro e w2 ⟨A, c, rfl, hgr, hb2⟩
  rw [hG] at hgr HROW
  have HG : Hid (∀ W, Below w2.heap.size w2 W → GrW W W.heap.size A fn c G) := Lib.hid fun W hW => (hgr.keep hW).more hW.size
  have HB2 : Hid (Below w.heap.size w w2) := Lib.hid (HB1.out.trans (hb2.mono HB1.out.size))
  have cM := Lib.hid (rComes_any A fn c G w2 hgr hfn HROW.out)
  have cO : Hid (∀ W, Below w2.heap.size w2 W → Calls Try.prog 22 #[.slice A fn c] W (IsOrd G W)) := Lib.hid fun W hW => rorder_any A fn c G W (HG.out W hW) hfn HROW.out
  have HGG := Lib.hid hG
  clear hgr hb2 cT q0 hw1 hg hG
  go_wp2_with fail
  refine cM.out.mono ?_
  rintro e w4 ⟨RA, rc, rb, r, rfl, hM, hR, hb4⟩
  have HM := Lib.hid hM
  have HR := Lib.hid hR
  have HB4 := Lib.hid hb4
  clear hM hR hb4 cM
  go_wp2_with fail
  go_loopw [8] (fun iv wr => ∃ k : Nat, iv = .int .i64 k ∧ k ≤ fn ∧ Hid ((∀ i, i < k → ¬ Rp G i i) ∧ Below w2.heap.size w2 wr ∧ MatW w2.heap.size fn RA fn rc rb r wr)) (fun iv _ => fn - (intOf iv).toNat)
  case atStart => exact ⟨0, rfl, Nat.zero_le _, Lib.hid ⟨fun i hi => by omega, HB4.out, HM.out⟩⟩
  case round =>
    clear HM HB4
    obtain ⟨k, rfl, hk, HK⟩ := hrel
    have hk0 : (0 : Int) ≤ (k : Int) := by omega
    have HB : Hid (Below w.heap.size w wr) := Lib.hid (HB2.out.trans (HK.out.2.1.mono HB2.out.size))
    by_cases hlt : k < fn
    · have hkn : (k : Int) < (fn : Int) := by omega
      obtain ⟨ra, rfl, m0, m1, _⟩ := HK.out.2.2.at_ hlt hlt
      have HRK : Hid (r k k = true ↔ Rp G k k) := Lib.hid (HR.out k k)
      obtain ⟨rr, hrr⟩ : ∃ rr, r k k = rr := ⟨_, rfl⟩
      rw [hrr] at m1 HRK
      clear hrr
      cases rr with
      | true =>
        go_wp2_with fail
        go_ret2
        exact .inl ⟨⟨k, hlt, by rw [HGG.out]; exact HRK.out.1 trivial⟩, rfl, HB.out⟩
      | false =>
        go_wp2_with fail
        go_roundw
        case rel => exact ⟨k + 1, by go_num, by omega, Lib.hid ⟨fun i hi => by
          by_cases e : i = k
          · subst e
            exact fun h => by have := HRK.out.2 h; cases this
          · exact HK.out.1 i (by omega), HK.out.2.1, HK.out.2.2⟩⟩
        case measure => simp [intOf]; omega
    · obtain rfl : k = fn := by omega
      have cK := Lib.hid (cO.out wr HK.out.2.1)
      go_wp2_with fail
      refine cK.out.mono ?_
      rintro e w3 ⟨OA, m, oc, o, lf, d, rfl, ho, hl, hp, hn, hb3⟩
      have HX := Lib.hid (And.intro ho (And.intro hl (And.intro hp hn)))
      have HB3 : Hid (Below w.heap.size w w3) := Lib.hid (HB.out.trans (hb3.mono HB.out.size))
      have HNR := Lib.hid HK.out.1
      clear ho hl hp hn hb3 cK HK HR
      go_wp2_with fail
      go_ret2
      rw [← HGG.out] at HX HNR
      exact .inr ⟨HNR.out, OA, m, oc, o, lf, d, rfl, own_less HX.out.1 HB.out.size, HX.out.2.1, HX.out.2.2.1, HX.out.2.2.2, HB3.out⟩
end Go.Proofs.Ytnfoahcdmaphnaa
