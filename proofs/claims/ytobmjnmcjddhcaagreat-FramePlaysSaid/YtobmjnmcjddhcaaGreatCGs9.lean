import Derived.Test.YtobmjnmcjddhcaaGreatCB1
import Derived.Test.YtobmjnmcjddhcaaGreatCCn5
set_option linter.unusedSimpArgs false
set_option linter.unusedVariables false
set_option maxRecDepth 100000
set_option maxHeartbeats 4000000
namespace Go.Proofs.YtobmjnmcjddhcaaGreat
open Go.RowKit
def smallF (x : DFunc) : Bool := smallB x.outer.length x.params.length x.results.length x.locals.length x.code.length x.lines.length x.nodes.length x.at_.length x.live.length
def IsSm (fs : List DFunc) (w : World) (e : Ending) (w' : World) : Prop := ∃ r : Bool, e = .returned (.bool r) ∧ (r = true → fs.length ≤ 50 ∧ ∀ x ∈ fs, smallF x = true) ∧ Below w.heap.size w w'
theorem bound_of {w : World} {B : Nat} {A0 A1 A2 A3 : Option Addr} {n0 n1 n2 n3 c0 c1 c2 c3 : Nat} {a b c d : List Int} (h0 : SlR 1 8 (RInt .i64) w B A0 n0 c0 a) (h1 : SlR 1 8 (RInt .i64) w B A1 n1 c1 b) (h2 : SlR 1 8 (RInt .i64) w B A2 n2 c2 c) (h3 : SlR 1 8 (RInt .i64) w B A3 n3 c3 d) (n4 n5 n6 n7 n8 : Nat) : BoundL n0 n1 n2 n3 n4 n5 n6 n7 n8 := by
 have e0 := h0.2.2.2.1
 have e1 := h1.2.2.2.1
 have e2 := h2.2.2.2.1
 have e3 := h3.2.2.2.1
 unfold reachBytes at e0 e1 e2 e3
 unfold BoundL
 omega
theorem small16_any (B : Nat) (FA : Option Addr) (fn fc : Nat) (fs : List DFunc) (w : World) (h : SlR 11 240 RFunc w B FA fn fc fs) (hB : B ≤ w.heap.size) :
  Calls Tryz.prog 8 #[.agg #[.slice FA fn fc]] w (IsSm fs w) := by
 obtain ⟨w1, hw1⟩ : ∃ X, w.alloc (.cells #[.slice FA fn fc] 24) = X := ⟨_, rfl⟩
 obtain ⟨g, hg⟩ : ∃ g, w.heap.size = g := ⟨_, rfl⟩
 have hb1 : Below g w w1 := by rw [← hw1, ← hg]; exact bl_one _
 have EQ : Hid (∀ W, Below w1.heap.size w1 W → W.cell? ⟨g, 0, none⟩ = some (.slice FA fn fc)) := Lib.hid fun W hW => (hW.cell (p := ⟨g, 0, none⟩) (by rw [← hw1]; simp; omega)).trans (by rw [← hw1, ← hg]; exact (Cells.new w [.slice FA fn fc] _).at_ 0 _ rfl)
 have H := Lib.hid h
 have HBW : Hid (∀ W, Below w1.heap.size w1 W → Below g w W) := Lib.hid fun W hW => hb1.trans (hW.mono (by have := hb1.size; omega))
 have hgE : Hid (w.heap.size = g ∧ B ≤ g) := Lib.hid ⟨hg, by omega⟩
 have HLN : Hid (fs.length = fn) := Lib.hid h.1
 have HFN : Hid (fn * 240 ≤ reachBytes) := Lib.hid h.2.2.2.1
 clear h hb1 hB
 go_enter Tryz.func8, Tryz.ntmps8
 go_wp2_with fail
 clear hw1
 go_loopw [3] (fun i' wr => ∃ k : Nat, i' = .int .i64 k ∧ k ≤ fn ∧ k ≤ 50 ∧ Hid ((∀ x ∈ fs.take k, smallF x = true) ∧ Below w1.heap.size w1 wr)) (fun i' _ => 50 - (intOf i').toNat)
 case atStart => exact ⟨0, rfl, Nat.zero_le _, Nat.zero_le _, Lib.hid ⟨by simp, Below.refl _ _⟩⟩
 case round =>
  obtain ⟨k, rfl, hk, hk50, HK⟩ := hrel
  have q0 := EQ.out wr HK.out.2
  have hk0 : (0 : Int) ≤ (k : Int) := by omega
  have HBg := Lib.hid (HBW.out wr HK.out.2)
  by_cases hlt : k < fn
  ·have hkn : (k : Int) < (fn : Int) := by omega
   by_cases h50 : k < 50
   ·have hk5 : (k : Int) < 50 := by omega
    obtain ⟨b, off, x, cs, rfl, hb, hx, hl, hc, hr⟩ := SlR.at_ H.out hlt
    obtain ⟨A0, n0, c0, A1, n1, c1, A2, n2, c2, A3, n3, c3, A4, n4, c4, A5, n5, c5, A6, n6, c6, A7, n7, c7, A8, n8, c8, rfl, z, r0, r1, r2, r3, r4, r5, r6, r7, r8⟩ := hr
    have hcell : ∀ j u, [Value.string x.name, .bool x.inner, .slice A0 n0 c0, .slice A1 n1 c1, .slice A2 n2 c2, .slice A3 n3 c3, .slice A4 n4 c4, .slice A5 n5 c5, .slice A6 n6 c6, .slice A7 n7 c7, .slice A8 n8 c8][j]? = some u → wr.cell? ⟨b, off + (k * 11 + j), none⟩ = some u := fun j u hj => (HBg.out.cell (p := ⟨b, off + (k * 11 + j), none⟩) (by have := hgE.out; show b < g; omega)).trans (hc j u hj)
    have y0 := hcell 0 _ rfl
    have y1 := hcell 1 _ rfl
    have y2 := hcell 2 _ rfl
    have y3 := hcell 3 _ rfl
    have y4 := hcell 4 _ rfl
    have y5 := hcell 5 _ rfl
    have y6 := hcell 6 _ rfl
    have y7 := hcell 7 _ rfl
    have y8 := hcell 8 _ rfl
    have y9 := hcell 9 _ rfl
    have y10 := hcell 10 _ rfl
    simp only [Nat.add_zero, ← Nat.add_assoc] at y0 y1 y2 y3 y4 y5 y6 y7 y8 y9 y10
    have cS := Lib.hid (small15_any x.name x.inner A0 n0 c0 A1 n1 c1 A2 n2 c2 A3 n3 c3 A4 n4 c4 A5 n5 c5 A6 n6 c6 A7 n7 c7 A8 n8 c8 wr (bound_of r0 r1 r2 r3 n4 n5 n6 n7 n8))
    have HX : Hid (smallB n0 n1 n2 n3 n4 n5 n6 n7 n8 = smallF x) := Lib.hid (by unfold smallF; rw [r0.1, r1.1, r2.1, r3.1, r4.1, r5.1, r6.1, r7.1, r8.1])
    have HT : Hid (smallF x = true → ∀ y ∈ fs.take (k + 1), smallF y = true) := Lib.hid (fun hs y hy => by
     rw [← take_snoc' fs k x hx] at hy
     rcases List.mem_append.1 hy with hy | hy
     ·exact HK.out.1 y hy
     ·rw [List.mem_singleton] at hy; subst hy; exact hs)
    rw [HX.out] at cS
    obtain ⟨r, hrr⟩ : ∃ r, smallF x = r := ⟨_, rfl⟩
    obtain ⟨nm, hnm⟩ : ∃ r, x.name = r := ⟨_, rfl⟩
    obtain ⟨inn, hin⟩ : ∃ r, x.inner = r := ⟨_, rfl⟩
    rw [hrr, hnm, hin] at cS
    rw [hrr] at HT
    rw [hnm] at y0
    rw [hin] at y1
    clear hcell hc hx hb hl r0 r1 r2 r3 r4 r5 r6 r7 r8 z HX hrr hnm hin
    go_wp2_with fail
    refine cS.out.mono ?_
    rintro e w2 ⟨rfl, hb2⟩
    have HB2 : Hid (Below w1.heap.size w1 w2) := Lib.hid (HK.out.2.trans (hb2.mono HK.out.2.size))
    clear hb2 cS q0 y0 y1 y2 y3 y4 y5 y6 y7 y8 y9 y10
    cases r with
    | true =>
     have HT2 := Lib.hid (HT.out rfl)
     clear HT
     go_wp2_with fail
     go_roundw
     case rel => exact ⟨k + 1, by go_num, by omega, by omega, Lib.hid ⟨HT2.out, HB2.out⟩⟩
     case measure => simp [intOf]; omega
    | false =>
     clear HT
     go_wp2_with fail
     go_ret
     exact ⟨false, rfl, (fun h => by cases h), by rw [hgE.out.1]; exact HBW.out w2 HB2.out⟩
   ·obtain rfl : k = 50 := by omega
    have hk5 : ¬ ((50 : Nat) : Int) < 50 := by omega
    by_cases hf : fn ≤ 50
    ·omega
    ·have h51 : (50 : Int) < (fn : Int) := by omega
     have hd : decide ((fn : Int) ≤ 50) = false := by simp; omega
     go_wp2_with fail
     go_ret
     exact ⟨false, rfl, (fun h => by cases h), by rw [hgE.out.1]; exact HBg.out⟩
  ·obtain rfl : k = fn := by omega
   have h50' : (k : Int) ≤ 50 := by omega
   have HALL : Hid (fs.length ≤ 50 ∧ ∀ x ∈ fs, smallF x = true) := Lib.hid ⟨by have := HLN.out; omega, by have h1 := HK.out.1; rw [List.take_of_length_le (by have := HLN.out; omega)] at h1; exact h1⟩
   go_wp2_with fail
   go_ret
   exact ⟨true, rfl, fun _ => HALL.out, by rw [hgE.out.1]; exact HBg.out⟩

end Go.Proofs.YtobmjnmcjddhcaaGreat
