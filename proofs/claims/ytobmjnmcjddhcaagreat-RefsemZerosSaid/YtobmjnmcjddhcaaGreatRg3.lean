import Derived.Test.YtobmjnmcjddhcaaGreatRg1
import Derived.Test.YtobmjnmcjddhcaaGreatRg2
set_option linter.unusedSimpArgs false
set_option linter.unusedVariables false
namespace Go.Proofs.YtobmjnmcjddhcaaGreat
section
set_option maxRecDepth 100000
set_option maxHeartbeats 32000000
open Go.RowKit
theorem rbare_any (s : ByteArray) (b : Bool) (A0 : Option Addr) (n0 c0 : Nat) (A1 : Option Addr) (n1 c1 : Nat) (A2 : Option Addr) (n2 c2 : Nat) (A3 : Option Addr) (n3 c3 : Nat) (A4 : Option Addr) (n4 c4 : Nat) (A5 : Option Addr) (n5 c5 : Nat) (A6 : Option Addr) (n6 c6 : Nat) (A7 : Option Addr) (n7 c7 : Nat) (A8 : Option Addr) (n8 c8 : Nat) (w : World) (h6 : n6 ≤ 100000000000000) (h7 : n7 ≤ 100000000000000) (h8 : n8 ≤ 100000000000000) (r : Bool) (hr : r = decide (n6 + n7 + n8 = 0)) :
  Calls Tryz.prog 11 #[.agg #[.string s, .bool b, .slice A0 n0 c0, .slice A1 n1 c1, .slice A2 n2 c2, .slice A3 n3 c3, .slice A4 n4 c4, .slice A5 n5 c5, .slice A6 n6 c6, .slice A7 n7 c7, .slice A8 n8 c8]] w fun e w' => e = .returned (.bool r) ∧ Below w.heap.size w w' := by
 obtain ⟨w1, hw1⟩ : ∃ X, w.alloc (.cells #[.string s, .bool b, .slice A0 n0 c0, .slice A1 n1 c1, .slice A2 n2 c2, .slice A3 n3 c3, .slice A4 n4 c4, .slice A5 n5 c5, .slice A6 n6 c6, .slice A7 n7 c7, .slice A8 n8 c8] 38) = X := ⟨_, rfl⟩
 obtain ⟨g, hg⟩ : ∃ g, w.heap.size = g := ⟨_, rfl⟩
 have hc : Cells w1 g #[.string s, .bool b, .slice A0 n0 c0, .slice A1 n1 c1, .slice A2 n2 c2, .slice A3 n3 c3, .slice A4 n4 c4, .slice A5 n5 c5, .slice A6 n6 c6, .slice A7 n7 c7, .slice A8 n8 c8].toList := by rw [← hw1, ← hg]; exact Cells.new w #[.string s, .bool b, .slice A0 n0 c0, .slice A1 n1 c1, .slice A2 n2 c2, .slice A3 n3 c3, .slice A4 n4 c4, .slice A5 n5 c5, .slice A6 n6 c6, .slice A7 n7 c7, .slice A8 n8 c8].toList _
 have HB : Hid (Below w.heap.size w w1) := Hd (by rw [← hw1]; exact bl_one _)
 have q8 := hc.at_ 8 _ rfl
 have q9 := hc.at_ 9 _ rfl
 have q10 := hc.at_ 10 _ rfl
 clear hc
 have k6 : (n6 : Int) ≤ 100000000000000 := by omega
 have k7 : (n7 : Int) ≤ 100000000000000 := by omega
 have k8 : (n8 : Int) ≤ 100000000000000 := by omega
 have p6 : (0 : Int) ≤ (n6 : Int) := by omega
 have p7 : (0 : Int) ≤ (n7 : Int) := by omega
 have p8 : (0 : Int) ≤ (n8 : Int) := by omega
 by_cases h0 : n6 + n7 + n8 = 0
 ·have HR : Hid (r = true) := Hd (by rw [hr]; simpa using h0)
  have t0 : ((n6 : Int) + (n7 : Int) + (n8 : Int) == 0) = true := by rw [beq_iff_eq]; omega
  clear hr
  go_in
  go_wp2_with fail
  go_ret
  exact ⟨by rw [HR.out]; rfl, HB.out⟩
 ·have HR : Hid (r = false) := Hd (by rw [hr]; simpa using h0)
  have t0 : ((n6 : Int) + (n7 : Int) + (n8 : Int) == 0) = false := by rw [beq_eq_false_iff_ne]; omega
  clear hr
  go_in
  go_wp2_with fail
  go_ret
  exact ⟨by rw [HR.out]; rfl, HB.out⟩
def nodeOk (i : Nat) (x : DNode) : Prop := 0 ≤ x.fn ∧ x.fn ≤ 39 ∧ 0 ≤ x.line ∧ x.line ≤ 65535 ∧ 0 ≤ x.args ∧ x.args ≤ 8 ∧ 0 ≤ x.from_ ∧ x.from_ ≤ 256 ∧ x.from_ ≤ x.to_ ∧ x.to_ ≤ 256 ∧ x.args ≤ x.to_ - x.from_ ∧ (i = 0 → x.parent = -1 ∧ x.line = 0 ∧ x.from_ = 0 ∧ x.resume = 0) ∧ (0 < i → 0 ≤ x.parent ∧ x.parent < (i : Int) ∧ 1 ≤ x.resume ∧ x.resume ≤ 1999)
def nodesOk (xs : List DNode) : Prop := 1 ≤ xs.length ∧ xs.length ≤ 120 ∧ ∀ i x, xs[i]? = some x → nodeOk i x
def IsNr (xs : List DNode) (w : World) (e : Ending) (w' : World) : Prop := ∃ b : Bool, e = .returned (.bool b) ∧ (b = true → nodesOk xs) ∧ Below w.heap.size w w'
theorem nright_any (A : Option Addr) (n c : Nat) (xs : List DNode) (w : World) (h : SlN w w.heap.size A n c xs) :
  Calls Tryz.prog 145 #[.slice A n c] w (IsNr xs w) := by
 have HLN := Hd h.1
 by_cases hl : n < 1
 ·have t0 : decide (n < 1) = true := by simpa using hl
  go_in
  go_wp2_with fail
  go_ret
  exact ⟨_, rfl, (fun h => by cases h), Below.refl _ _⟩
 have t0 : decide (n < 1) = false := by simpa using hl
 by_cases hm : n > 120
 ·have t1 : decide (n > 120) = true := by simpa using hm
  go_in
  go_wp2_with fail
  go_ret
  exact ⟨_, rfl, (fun h => by cases h), Below.refl _ _⟩
 have t1 : decide (n > 120) = false := by simpa using hm
 have HN : Hid (1 ≤ n ∧ n ≤ 120) := Hd (by omega)
 have HS : Hid (∀ W, Below w.heap.size w W → SlN W w.heap.size A n c xs) := Hd fun W hW => SlR.keep (stable_rc _) h fun p hp => hW.cell hp
 clear h
 go_in
 go_wp2_with fail
 clear t0 t1 hl hm
 go_loopw [3, 4] (fun tv iv wr => ∃ (k : Nat) (to : Int), tv = .int .i64 to ∧ iv = .int .i64 k ∧ k ≤ n ∧ 0 ≤ to ∧ to ≤ 256 ∧ Hid (Below w.heap.size w wr ∧ ∀ i x, i < k → xs[i]? = some x → nodeOk i x)) (fun _ iv _ => n - (intOf iv).toNat)
 case atStart => exact ⟨0, 0, rfl, rfl, Nat.zero_le _, by omega, by omega, Hd ⟨Below.refl _ _, fun i x hi => by omega⟩⟩
 case round =>
  obtain ⟨k, to, rfl, rfl, hk, ht0, ht1, HK⟩ := hrel
  have hk0 : (0 : Int) ≤ (k : Int) := by omega
  have hkb : (k : Int) ≤ 120 := by have := HN.out; omega
  by_cases hlt : k < n
  ·have hkn : (k : Int) < (n : Int) := by omega
   obtain ⟨b1, off, x, rfl, hb, hx, y0, y1, y2, y3, y4, y5, y6⟩ := sln_at (HS.out wr HK.out.1) hlt
   obtain ⟨ga, hga⟩ : ∃ X, wr.heap.size = X := ⟨_, rfl⟩
   obtain ⟨xp, xf, xl, xo, xg, xt, xr⟩ := x
   dsimp only at y0 y1 y2 y3 y4 y5 y6
   obtain ⟨wa, hwa⟩ : ∃ X, wr.alloc (.cells #[.int .i64 xp, .int .i64 xf, .int .i64 xl, .int .i64 xo, .int .i64 xg, .int .i64 xt, .int .i64 xr] 238) = X := ⟨_, rfl⟩
   have hca : Cells wa ga [.int .i64 xp, .int .i64 xf, .int .i64 xl, .int .i64 xo, .int .i64 xg, .int .i64 xt, .int .i64 xr] := by rw [← hwa]; exact cells_new_at hga [.int .i64 xp, .int .i64 xf, .int .i64 xl, .int .i64 xo, .int .i64 xg, .int .i64 xt, .int .i64 xr] _
   have HBA : Hid (Below w.heap.size w wa) := Hd (HK.out.1.trans ((show Below wr.heap.size wr wa by rw [← hwa]; exact bl_one _).mono HK.out.1.size))
   have z0 := hca.at_ 0 _ rfl
   have z1 := hca.at_ 1 _ rfl
   have z2 := hca.at_ 2 _ rfl
   have z3 := hca.at_ 3 _ rfl
   have z4 := hca.at_ 4 _ rfl
   have z5 := hca.at_ 5 _ rfl
   have z6 := hca.at_ 6 _ rfl
   have HX : Hid (nodeOk k ⟨xp, xf, xl, xo, xg, xt, xr⟩ → ∀ i x, i < k + 1 → xs[i]? = some x → nodeOk i x) := Hd (fun hk i x hi hx' => by
    by_cases e : i = k
    ·subst e
     rw [hx] at hx'
     injection hx' with hx'
     subst hx'
     exact hk
    ·exact HK.out.2 i x (by omega) hx')
   clear hca hx hb HK
   by_cases h0 : xf < 0
   ·have u0 : decide (xf < 0) = true := by simpa using h0
    go_wp2_with fail
    go_ret
    exact ⟨_, rfl, (fun h => by cases h), HBA.out⟩
   have u0 : decide (xf < 0) = false := by simpa using h0
   by_cases h1 : xf > 39
   ·have u1 : decide (xf > 39) = true := by simpa using h1
    go_wp2_with fail
    go_ret
    exact ⟨_, rfl, (fun h => by cases h), HBA.out⟩
   have u1 : decide (xf > 39) = false := by simpa using h1
   by_cases h2 : xl < 0
   ·have u2 : decide (xl < 0) = true := by simpa using h2
    go_wp2_with fail
    go_ret
    exact ⟨_, rfl, (fun h => by cases h), HBA.out⟩
   have u2 : decide (xl < 0) = false := by simpa using h2
   by_cases h3 : xl > 65535
   ·have u3 : decide (xl > 65535) = true := by simpa using h3
    go_wp2_with fail
    go_ret
    exact ⟨_, rfl, (fun h => by cases h), HBA.out⟩
   have u3 : decide (xl > 65535) = false := by simpa using h3
   by_cases h4 : xg < 0
   ·have u4 : decide (xg < 0) = true := by simpa using h4
    go_wp2_with fail
    go_ret
    exact ⟨_, rfl, (fun h => by cases h), HBA.out⟩
   have u4 : decide (xg < 0) = false := by simpa using h4
   by_cases h5 : xg > 8
   ·have u5 : decide (xg > 8) = true := by simpa using h5
    go_wp2_with fail
    go_ret
    exact ⟨_, rfl, (fun h => by cases h), HBA.out⟩
   have u5 : decide (xg > 8) = false := by simpa using h5
   by_cases h6 : xo < to
   ·have u6 : decide (xo < to) = true := by simpa using h6
    go_wp2_with fail
    go_ret
    exact ⟨_, rfl, (fun h => by cases h), HBA.out⟩
   have u6 : decide (xo < to) = false := by simpa using h6
   by_cases h7 : xo > 256
   ·have u7 : decide (xo > 256) = true := by simpa using h7
    go_wp2_with fail
    go_ret
    exact ⟨_, rfl, (fun h => by cases h), HBA.out⟩
   have u7 : decide (xo > 256) = false := by simpa using h7
   by_cases h8 : xt < xo
   ·have u8 : decide (xt < xo) = true := by simpa using h8
    go_wp2_with fail
    go_ret
    exact ⟨_, rfl, (fun h => by cases h), HBA.out⟩
   have u8 : decide (xt < xo) = false := by simpa using h8
   by_cases h9 : xt > 256
   ·have u9 : decide (xt > 256) = true := by simpa using h9
    go_wp2_with fail
    go_ret
    exact ⟨_, rfl, (fun h => by cases h), HBA.out⟩
   have u9 : decide (xt > 256) = false := by simpa using h9
   by_cases h10 : xt - xo < xg
   ·have u10 : decide (xt - xo < xg) = true := by simpa using h10
    go_wp2_with fail
    go_ret
    exact ⟨_, rfl, (fun h => by cases h), HBA.out⟩
   have u10 : decide (xt - xo < xg) = false := by simpa using h10
   by_cases hk1 : k = 0
   ·have HK1 := Hd hk1
    have e0 : ((k : Int) == 0) = true := by rw [beq_iff_eq]; omega
    have e1 : decide ((k : Int) > 0) = false := dcF (by omega)
    have e2 : decide (k > 0) = false := dcF (by omega)
    have e3 : (k == 0) = true := by simpa using hk1
    clear hk1
    by_cases g0 : ¬ xp = -1
    ·have v0 : (xp != -1) = true := by simpa using g0
     go_wp2_with fail
     go_ret
     exact ⟨_, rfl, (fun h => by cases h), HBA.out⟩
    have v0 : (xp != -1) = false := by simpa using g0
    have G0 : Hid (xp = -1) := Hd (by omega)
    clear g0
    by_cases g1 : ¬ xl = 0
    ·have v1 : (xl != 0) = true := by simpa using g1
     go_wp2_with fail
     go_ret
     exact ⟨_, rfl, (fun h => by cases h), HBA.out⟩
    have v1 : (xl != 0) = false := by simpa using g1
    have G1 : Hid (xl = 0) := Hd (by omega)
    clear g1
    by_cases g2 : ¬ xo = 0
    ·have v2 : (xo != 0) = true := by simpa using g2
     go_wp2_with fail
     go_ret
     exact ⟨_, rfl, (fun h => by cases h), HBA.out⟩
    have v2 : (xo != 0) = false := by simpa using g2
    have G2 : Hid (xo = 0) := Hd (by omega)
    clear g2
    by_cases g3 : ¬ xr = 0
    ·have v3 : (xr != 0) = true := by simpa using g3
     go_wp2_with fail
     go_ret
     exact ⟨_, rfl, (fun h => by cases h), HBA.out⟩
    have v3 : (xr != 0) = false := by simpa using g3
    have G3 : Hid (xr = 0) := Hd (by omega)
    clear g3
    have HND : Hid (∀ i x, i < k + 1 → xs[i]? = some x → nodeOk i x) := Hd (HX.out (by
     unfold nodeOk
     dsimp only
     exact ⟨by omega, by omega, by omega, by omega, by omega, by omega, by omega, by omega, by omega, by omega, by omega, (fun _ => ⟨G0.out, G1.out, G2.out, G3.out⟩), (fun h => by have := HK1.out; omega)⟩))
    go_wp2_with fail
    go_roundw
    case rel => exact ⟨k + 1, xt, rfl, by go_num, by omega, by omega, by omega, Hd ⟨HBA.out, HND.out⟩⟩
    case measure => simp [intOf]; omega
   ·have e0 : ((k : Int) == 0) = false := by rw [beq_eq_false_iff_ne]; omega
    have e1 : decide ((k : Int) > 0) = true := dcT (by omega)
    have e2 : decide (k > 0) = true := dcT (by omega)
    have e3 : (k == 0) = false := by simpa using hk1
    by_cases g0 : xp < 0
    ·have v0 : decide (xp < 0) = true := by simpa using g0
     go_wp2_with fail
     go_ret
     exact ⟨_, rfl, (fun h => by cases h), HBA.out⟩
    have v0 : decide (xp < 0) = false := by simpa using g0
    by_cases g1 : xp ≥ (k : Int)
    ·have v1 : decide (xp ≥ (k : Int)) = true := by simpa using g1
     go_wp2_with fail
     go_ret
     exact ⟨_, rfl, (fun h => by cases h), HBA.out⟩
    have v1 : decide (xp ≥ (k : Int)) = false := by simpa using g1
    by_cases g2 : xr < 1
    ·have v2 : decide (xr < 1) = true := by simpa using g2
     go_wp2_with fail
     go_ret
     exact ⟨_, rfl, (fun h => by cases h), HBA.out⟩
    have v2 : decide (xr < 1) = false := by simpa using g2
    by_cases g3 : xr > 1999
    ·have v3 : decide (xr > 1999) = true := by simpa using g3
     go_wp2_with fail
     go_ret
     exact ⟨_, rfl, (fun h => by cases h), HBA.out⟩
    have v3 : decide (xr > 1999) = false := by simpa using g3
    have HND : Hid (∀ i x, i < k + 1 → xs[i]? = some x → nodeOk i x) := Hd (HX.out (by
     unfold nodeOk
     dsimp only
     exact ⟨by omega, by omega, by omega, by omega, by omega, by omega, by omega, by omega, by omega, by omega, by omega, fun _ => by omega, fun _ => by omega⟩))
    go_wp2_with fail
    go_roundw
    case rel => exact ⟨k + 1, xt, rfl, by go_num, by omega, by omega, by omega, Hd ⟨HBA.out, HND.out⟩⟩
    case measure => simp [intOf]; omega
  ·obtain rfl : k = n := by omega
   go_wp2_with fail
   go_ret
   exact ⟨_, rfl, (fun _ => ⟨by have := HN.out; have := HLN.out; omega, by have := HN.out; have := HLN.out; omega, fun i x hx => HK.out.2 i x (by have := (List.getElem?_eq_some_iff.1 hx).1; have := HLN.out; omega) hx⟩), HK.out.1⟩
end
section
set_option maxRecDepth 100000
set_option maxHeartbeats 8000000
open Go.RowKit
def cellsS (x : DSet) : List Value := [.int .u64 x.w0, .int .u64 x.w1, .int .u64 x.w2, .int .u64 x.w3]
abbrev SlS4 (w : World) (B : Nat) (A : Option Addr) (n c : Nat) (xs : List DSet) : Prop := SlR 4 32 (RC cellsS) w B A n c xs
theorem sls4_of {w : World} {B : Nat} {A : Option Addr} {n c : Nat} {xs : List DSet} (h : SlR 4 32 RSet w B A n c xs) : SlS4 w B A n c xs := h.imp fun cs x _ hr => hr.1
theorem mright_any (A : Option Addr) (n c : Nat) (xs : List DSet) (m : Int) (w : World) (h : SlS4 w w.heap.size A n c xs) (hn : n ≤ 100000) (hm0 : -9223372036854775808 ≤ m) (hm1 : m < 9223372036854775808) :
  Calls Tryz.prog 146 #[.slice A n c, .int .i64 m] w (IsBool w) := by
 have HS : Hid (∀ W, Below w.heap.size w W → SlS4 W w.heap.size A n c xs) := Hd fun W hW => SlR.keep (stable_rc _) h fun p hp => hW.cell hp
 clear h
 go_in
 go_wp2_with fail
 go_loopw [5] (fun iv wr => ∃ (k : Nat), iv = .int .i64 k ∧ k ≤ n ∧ Hid (Below w.heap.size w wr)) (fun iv _ => n - (intOf iv).toNat)
 case atStart => exact ⟨0, rfl, Nat.zero_le _, Hd (Below.refl _ _)⟩
 case round =>
  obtain ⟨k, rfl, hk, HK⟩ := hrel
  have hk0 : (0 : Int) ≤ (k : Int) := by omega
  have hkb : (k : Int) ≤ 100000 := by omega
  by_cases hlt : k < n
  ·have hkn : (k : Int) < (n : Int) := by omega
   obtain ⟨b, off, x, cs, rfl, hb, hx, hl, hc, hr⟩ := SlR.at_ (HS.out wr HK.out) hlt
   unfold RC at hr
   subst hr
   have HC : Hid (∀ W, Below wr.heap.size wr W → W.cell? ⟨b, off + k * 4, none⟩ = some (.int .u64 x.w0) ∧ W.cell? ⟨b, off + k * 4 + 1, none⟩ = some (.int .u64 x.w1) ∧ W.cell? ⟨b, off + k * 4 + 2, none⟩ = some (.int .u64 x.w2) ∧ W.cell? ⟨b, off + k * 4 + 3, none⟩ = some (.int .u64 x.w3)) := Hd fun W hW => by
    have hbl : ∀ o, W.cell? ⟨b, o, none⟩ = wr.cell? ⟨b, o, none⟩ := fun o => hW.cell (p := ⟨b, o, none⟩) (Nat.lt_of_lt_of_le hb HK.out.size)
    have c0 := hc 0 _ rfl
    have c1 := hc 1 _ rfl
    have c2 := hc 2 _ rfl
    have c3 := hc 3 _ rfl
    simp only [Nat.add_zero, ← Nat.add_assoc] at c0 c1 c2 c3
    exact ⟨(hbl _).trans c0, (hbl _).trans c1, (hbl _).trans c2, (hbl _).trans c3⟩
   have cR : Hid (∀ W, Calls Tryz.prog 157 #[.int .i64 0, .int .i64 m] W (IsW (rangeM 0 m) W)) := Hd fun W => rrange_any 0 m W (by omega) (by omega)
   have cI : Hid (∀ W, Calls Tryz.prog 131 #[aggU x.w0 x.w1 x.w2 x.w3, aggW (rangeM 0 m)] W fun e w' => e = .returned (.bool (insB x.w0 x.w1 x.w2 x.w3 (rangeM 0 m).a0 (rangeM 0 m).a1 (rangeM 0 m).a2 (rangeM 0 m).a3)) ∧ Below W.heap.size W w') := Hd fun W => refInside_any _ _ _ _ _ _ _ _ W
   obtain ⟨s, hs⟩ : ∃ s, rangeM 0 m = s := ⟨_, rfl⟩
   rw [hs] at cR cI
   obtain ⟨r, hr⟩ : ∃ r, insB x.w0 x.w1 x.w2 x.w3 s.a0 s.a1 s.a2 s.a3 = r := ⟨_, rfl⟩
   simp only [hr] at cI
   clear hs hr hc hl hx hb
   go_wp2_with fail
   refine wp_region_held (S := fun W => Below wr.heap.size wr W) (by kernel_rfl) ?_
   change wpAnyH _ _ _ _ _ _ _ _ (World.drew _)
   have hS0 : Below wr.heap.size wr wr.drew := (Below.refl _ _).drew
   refine teH 0 (.slice (some ⟨b, off, none⟩) n c) rfl (by intro W hW; go_simp; try (first | (with_reducible rfl) | omega)) hS0 ?_
   refine teH 1 (.int .i64 (k : Int)) rfl (by intro W hW; go_simp; try (first | (with_reducible rfl) | omega)) hS0 ?_
   refine teH 4 (.int .i64 m) rfl (by intro W hW; go_simp; try (first | (with_reducible rfl) | omega)) hS0 ?_
   try go_simp
   refine teH 2 (.pointer (some ⟨b, off + k * 4, none⟩)) rfl (by intro W hW; go_simp; try (first | (with_reducible rfl) | omega)) hS0 ?_
   try go_simp
   refine teH 3 (aggU x.w0 x.w1 x.w2 x.w3) rfl (by intro W hW; obtain ⟨c0, c1, c2, c3⟩ := HC.out W hW; go_simp; try (first | (with_reducible rfl) | omega)) hS0 ?_
   try go_simp
   refine wpAnyH_one (i := 5) (by kernel_rfl) rfl (fun K hK => ?_)
   go_simp
   refine (cR.out _).mono ?_
   rintro e w4 ⟨rfl, hb4⟩
   have hS4 := hS0.trans (hb4.mono hS0.size)
   clear hb4
   go_simp
   refine hK _ _ ⟨hS4, ?_⟩; clear hK K
   refine wpAnyH_one (i := 6) (by kernel_rfl) rfl (fun K hK => ?_)
   go_simp
   refine (cI.out _).mono ?_
   rintro e w5 ⟨rfl, hb5⟩
   have hS5 := hS4.trans (hb5.mono hS4.size)
   clear hb5
   go_simp
   refine hK _ _ ⟨hS5, ?_⟩; clear hK K
   refine wpAnyH_one (i := 7) (by kernel_rfl) rfl (fun K hK => ?_)
   go_simp
   refine hK _ _ ⟨hS5, ?_⟩; clear hK K
   try go_simp
   refine wpAnyH_done (by kernel_rfl) ?_ _
   have HB6 : Hid (Below w.heap.size w w5) := Hd (HK.out.trans (hS5.mono HK.out.size))
   clear hS0 hS4 hS5
   go_simp
   cases r with
   | true =>
    go_wp2_with fail
    go_roundw
    case rel => exact ⟨k + 1, by go_num, by omega, HB6⟩
    case measure => simp [intOf]; omega
   | false =>
    go_wp2_with fail
    go_ret
    exact ⟨⟨_, rfl⟩, HB6.out⟩
  ·obtain rfl : k = n := by omega
   go_wp2_with fail
   go_ret
   exact ⟨⟨_, rfl⟩, HK.out⟩
end
section
set_option maxRecDepth 100000
set_option maxHeartbeats 16000000
open Go.RowKit
structure FnW (w : World) (B : Nat) (s : ByteArray) (b : Bool) (A0 : Option Addr) (n0 c0 : Nat) (A1 : Option Addr) (n1 c1 : Nat) (A2 : Option Addr) (n2 c2 : Nat) (A3 : Option Addr) (n3 c3 : Nat) (A4 : Option Addr) (n4 c4 : Nat) (A5 : Option Addr) (n5 c5 : Nat) (A6 : Option Addr) (n6 c6 : Nat) (A7 : Option Addr) (n7 c7 : Nat) (A8 : Option Addr) (n8 c8 : Nat) (x : DFunc) : Prop where
 nm : s.size ≤ 1000000000000000
 r0 : SlI w B A0 n0 c0 x.outer
 r1 : SlI w B A1 n1 c1 x.params
 r2 : SlI w B A2 n2 c2 x.results
 r3 : SlI w B A3 n3 c3 x.locals
 r4 : SlC w B A4 n4 c4 x.code
 r5 : SlI w B A5 n5 c5 x.lines
 r6 : SlN w B A6 n6 c6 x.nodes
 r7 : SlI w B A7 n7 c7 x.at_
 r8 : SlS4 w B A8 n8 c8 x.live
 sm : n4 ≤ 150 ∧ n5 ≤ 150 ∧ n6 ≤ 20 ∧ n7 ≤ 150 ∧ n8 ≤ 150 ∧ n1 + n2 + n3 + n0 ≤ 300
theorem FnW.keep {w w' : World} {B : Nat} {s : ByteArray} {b : Bool} {A0 : Option Addr} {n0 c0 : Nat} {A1 : Option Addr} {n1 c1 : Nat} {A2 : Option Addr} {n2 c2 : Nat} {A3 : Option Addr} {n3 c3 : Nat} {A4 : Option Addr} {n4 c4 : Nat} {A5 : Option Addr} {n5 c5 : Nat} {A6 : Option Addr} {n6 c6 : Nat} {A7 : Option Addr} {n7 c7 : Nat} {A8 : Option Addr} {n8 c8 : Nat} {x : DFunc} (h : FnW w B s b A0 n0 c0 A1 n1 c1 A2 n2 c2 A3 n3 c3 A4 n4 c4 A5 n5 c5 A6 n6 c6 A7 n7 c7 A8 n8 c8 x) (hb : Below B w w') : FnW w' B s b A0 n0 c0 A1 n1 c1 A2 n2 c2 A3 n3 c3 A4 n4 c4 A5 n5 c5 A6 n6 c6 A7 n7 c7 A8 n8 c8 x :=
 ⟨h.nm, SlR.keep (stable_rc _) h.r0 fun p hp => hb.cell hp, SlR.keep (stable_rc _) h.r1 fun p hp => hb.cell hp, SlR.keep (stable_rc _) h.r2 fun p hp => hb.cell hp, SlR.keep (stable_rc _) h.r3 fun p hp => hb.cell hp, SlR.keep (stable_rc _) h.r4 fun p hp => hb.cell hp, SlR.keep (stable_rc _) h.r5 fun p hp => hb.cell hp, SlR.keep (stable_rc _) h.r6 fun p hp => hb.cell hp, SlR.keep (stable_rc _) h.r7 fun p hp => hb.cell hp, SlR.keep (stable_rc _) h.r8 fun p hp => hb.cell hp, h.sm⟩
theorem FnW.more {w : World} {B B' : Nat} {s : ByteArray} {b : Bool} {A0 : Option Addr} {n0 c0 : Nat} {A1 : Option Addr} {n1 c1 : Nat} {A2 : Option Addr} {n2 c2 : Nat} {A3 : Option Addr} {n3 c3 : Nat} {A4 : Option Addr} {n4 c4 : Nat} {A5 : Option Addr} {n5 c5 : Nat} {A6 : Option Addr} {n6 c6 : Nat} {A7 : Option Addr} {n7 c7 : Nat} {A8 : Option Addr} {n8 c8 : Nat} {x : DFunc} (h : FnW w B s b A0 n0 c0 A1 n1 c1 A2 n2 c2 A3 n3 c3 A4 n4 c4 A5 n5 c5 A6 n6 c6 A7 n7 c7 A8 n8 c8 x) (hB : B ≤ B') : FnW w B' s b A0 n0 c0 A1 n1 c1 A2 n2 c2 A3 n3 c3 A4 n4 c4 A5 n5 c5 A6 n6 c6 A7 n7 c7 A8 n8 c8 x :=
 ⟨h.nm, SlR.more h.r0 hB, SlR.more h.r1 hB, SlR.more h.r2 hB, SlR.more h.r3 hB, SlR.more h.r4 hB, SlR.more h.r5 hB, SlR.more h.r6 hB, SlR.more h.r7 hB, SlR.more h.r8 hB, h.sm⟩
def tabOk (nodes : List DNode) (at_ : List Int) (live : List DSet) (n : Nat) : Prop := (nodes = [] ∧ at_ = [] ∧ live = []) ∨ (nodesOk nodes ∧ at_.length = n ∧ live.length = n ∧ ∀ x ∈ at_, 0 ≤ x ∧ x < (nodes.length : Int))
def IsTb (x : DFunc) (w : World) (e : Ending) (w' : World) : Prop := ∃ b : Bool, e = .returned (.bool b) ∧ (b = true → tabOk x.nodes x.at_ x.live x.code.length) ∧ Below w.heap.size w w'
theorem tables_any (s : ByteArray) (b : Bool) (A0 : Option Addr) (n0 c0 : Nat) (A1 : Option Addr) (n1 c1 : Nat) (A2 : Option Addr) (n2 c2 : Nat) (A3 : Option Addr) (n3 c3 : Nat) (A4 : Option Addr) (n4 c4 : Nat) (A5 : Option Addr) (n5 c5 : Nat) (A6 : Option Addr) (n6 c6 : Nat) (A7 : Option Addr) (n7 c7 : Nat) (A8 : Option Addr) (n8 c8 : Nat) (x : DFunc) (m : Int) (w : World) (h : FnW w w.heap.size s b A0 n0 c0 A1 n1 c1 A2 n2 c2 A3 n3 c3 A4 n4 c4 A5 n5 c5 A6 n6 c6 A7 n7 c7 A8 n8 c8 x) (hm0 : 0 ≤ m) (hm1 : m < 1000000) :
  Calls Tryz.prog 116 #[.agg #[.string s, .bool b, .slice A0 n0 c0, .slice A1 n1 c1, .slice A2 n2 c2, .slice A3 n3 c3, .slice A4 n4 c4, .slice A5 n5 c5, .slice A6 n6 c6, .slice A7 n7 c7, .slice A8 n8 c8], .int .i64 m] w (IsTb x w) := by
 obtain ⟨w1, hw1⟩ : ∃ X, w.alloc (.cells #[.string s, .bool b, .slice A0 n0 c0, .slice A1 n1 c1, .slice A2 n2 c2, .slice A3 n3 c3, .slice A4 n4 c4, .slice A5 n5 c5, .slice A6 n6 c6, .slice A7 n7 c7, .slice A8 n8 c8] 38) = X := ⟨_, rfl⟩
 obtain ⟨g, hg⟩ : ∃ g, w.heap.size = g := ⟨_, rfl⟩
 have hc : Cells w1 g #[.string s, .bool b, .slice A0 n0 c0, .slice A1 n1 c1, .slice A2 n2 c2, .slice A3 n3 c3, .slice A4 n4 c4, .slice A5 n5 c5, .slice A6 n6 c6, .slice A7 n7 c7, .slice A8 n8 c8].toList := by rw [← hw1, ← hg]; exact Cells.new w #[.string s, .bool b, .slice A0 n0 c0, .slice A1 n1 c1, .slice A2 n2 c2, .slice A3 n3 c3, .slice A4 n4 c4, .slice A5 n5 c5, .slice A6 n6 c6, .slice A7 n7 c7, .slice A8 n8 c8].toList _
 have hb1 : Below w.heap.size w w1 := by rw [← hw1]; exact bl_one _
 have HB := Hd hb1
 have EQ : Hid (∀ W, Below w1.heap.size w1 W → W.cell? ⟨g, 8, none⟩ = some (.slice A6 n6 c6) ∧ W.cell? ⟨g, 9, none⟩ = some (.slice A7 n7 c7)) := Hd fun W hW => ⟨(hc.on hW).at_ 8 _ rfl, (hc.on hW).at_ 9 _ rfl⟩
 have q0 := hc.at_ 0 _ rfl
 have q1 := hc.at_ 1 _ rfl
 have q2 := hc.at_ 2 _ rfl
 have q3 := hc.at_ 3 _ rfl
 have q4 := hc.at_ 4 _ rfl
 have q5 := hc.at_ 5 _ rfl
 have q6 := hc.at_ 6 _ rfl
 have q7 := hc.at_ 7 _ rfl
 have q8 := hc.at_ 8 _ rfl
 have q9 := hc.at_ 9 _ rfl
 have q10 := hc.at_ 10 _ rfl
 have QS : Hid (∀ W, Below w1.heap.size w1 W → W.cell? ⟨g, 6, none⟩ = some (.slice A4 n4 c4) ∧ W.cell? ⟨g, 10, none⟩ = some (.slice A8 n8 c8)) := Hd fun W hW => ⟨(hc.on hW).at_ 6 _ rfl, (hc.on hW).at_ 10 _ rfl⟩
 have HF : Hid (∀ W, Below w1.heap.size w1 W → FnW W W.heap.size s b A0 n0 c0 A1 n1 c1 A2 n2 c2 A3 n3 c3 A4 n4 c4 A5 n5 c5 A6 n6 c6 A7 n7 c7 A8 n8 c8 x) := Hd fun W hW => by
  have h2 : Below w.heap.size w W := hb1.trans (hW.mono hb1.size)
  exact (h.keep h2).more h2.size
 obtain ⟨s4, s5, s6, s7, s8, _⟩ := h.sm
 have cB := Hd (rbare_any s b A0 n0 c0 A1 n1 c1 A2 n2 c2 A3 n3 c3 A4 n4 c4 A5 n5 c5 A6 n6 c6 A7 n7 c7 A8 n8 c8 w1 (by omega) (by omega) (by omega) _ rfl)
 have cN : Hid (∀ W, Below w1.heap.size w1 W → Calls Tryz.prog 145 #[.slice A6 n6 c6] W (IsNr x.nodes W)) := Hd fun W hW => nright_any A6 n6 c6 x.nodes W (HF.out W hW).r6
 have cM : Hid (∀ W, Below w1.heap.size w1 W → Calls Tryz.prog 146 #[.slice A8 n8 c8, .int .i64 m] W (IsBool W)) := Hd fun W hW => mright_any A8 n8 c8 x.live m W (HF.out W hW).r8 (by omega) (by omega) (by omega)
 have HL : Hid (x.code.length = n4 ∧ x.nodes.length = n6 ∧ x.at_.length = n7 ∧ x.live.length = n8) := Hd ⟨h.r4.1, h.r6.1, h.r7.1, h.r8.1⟩
 have k4 : (n4 : Int) ≤ 150 := by omega
 have k6 : (n6 : Int) ≤ 20 := by omega
 have k7 : (n7 : Int) ≤ 150 := by omega
 have k8 : (n8 : Int) ≤ 150 := by omega
 clear hc h hb1
 obtain ⟨r, hr⟩ : ∃ r, decide (n6 + n7 + n8 = 0) = r := ⟨_, rfl⟩
 rw [hr] at cB
 go_in
 go_wp2_with fail
 refine cB.out.mono ?_
 rintro e w2 ⟨rfl, hb2⟩
 have HB2 := Hd hb2
 clear hb2 cB q0 q1 q2 q3 q4 q5 q6 q7 q8 q9 q10
 cases r with
 | true =>
  have hz : n6 + n7 + n8 = 0 := by simpa using hr
  have HZ : Hid (tabOk x.nodes x.at_ x.live x.code.length) := Hd (.inl ⟨List.eq_nil_of_length_eq_zero (by have := HL.out; omega), List.eq_nil_of_length_eq_zero (by have := HL.out; omega), List.eq_nil_of_length_eq_zero (by have := HL.out; omega)⟩)
  clear hr hz
  go_wp2_with fail
  go_ret
  exact ⟨_, rfl, (fun _ => HZ.out), HB.out.trans (HB2.out.mono HB.out.size)⟩
 | false =>
  clear hr
  obtain ⟨q8, q9⟩ := EQ.out w2 HB2.out
  have cK := Hd (cN.out w2 HB2.out)
  go_wp2_with fail
  refine cK.out.mono ?_
  rintro e w3 ⟨r3, rfl, hr3, hb3⟩
  have HB3 : Hid (Below w1.heap.size w1 w3) := Hd (HB2.out.trans (hb3.mono HB2.out.size))
  have HR3 := Hd hr3
  clear hb3 hr3 cK q8 q9
  have HW3 : Hid (Below w.heap.size w w3) := Hd (HB.out.trans (HB3.out.mono HB.out.size))
  cases r3 with
  | false =>
   go_wp2_with fail
   go_ret
   exact ⟨_, rfl, (fun h => by cases h), HW3.out⟩
  | true =>
   obtain ⟨q8, q9⟩ := EQ.out w3 HB3.out
   obtain ⟨q6, q10⟩ := QS.out w3 HB3.out
   by_cases e7 : n7 = n4
   ·have t7 : ((n7 : Int) != (n4 : Int)) = false := by simp; omega
    have E7 := Hd e7
    by_cases e8 : n8 = n4
    ·have t8 : ((n8 : Int) != (n4 : Int)) = false := by simp; omega
     have E8 := Hd e8
     have cK := Hd (cM.out w3 HB3.out)
     clear e7 e8
     go_wp2_with fail
     refine cK.out.mono ?_
     rintro e w4 ⟨⟨r4, rfl⟩, hb4⟩
     have HB4 : Hid (Below w1.heap.size w1 w4) := Hd (HB3.out.trans (hb4.mono HB3.out.size))
     have HW4 : Hid (Below w.heap.size w w4) := Hd (HB.out.trans (HB4.out.mono HB.out.size))
     obtain ⟨q8, q9⟩ := EQ.out w4 HB4.out
     clear hb4 cK
     cases r4 with
     | false =>
      go_wp2_with fail
      go_ret
      exact ⟨_, rfl, (fun h => by cases h), HW4.out⟩
     | true =>
      go_wp2_with fail
      go_loopw [5] (fun iv wr => ∃ (k : Nat), iv = .int .i64 k ∧ k ≤ n7 ∧ Hid ((∀ z ∈ x.at_.take k, 0 ≤ z ∧ z < (n6 : Int)) ∧ Below w1.heap.size w1 wr)) (fun iv _ => n7 - (intOf iv).toNat)
      case atStart => exact ⟨0, rfl, Nat.zero_le _, Hd ⟨by simp, HB4.out⟩⟩
      case round =>
       clear q8 q9
       obtain ⟨k, rfl, hk, HK⟩ := hrel
       have hk0 : (0 : Int) ≤ (k : Int) := by omega
       have hkb : (k : Int) ≤ 150 := by omega
       have HBr := Hd HK.out.2
       have HWr : Hid (Below w.heap.size w wr) := Hd (HB.out.trans (HBr.out.mono HB.out.size))
       obtain ⟨q8, q9⟩ := EQ.out wr HBr.out
       by_cases hlt : k < n7
       ·have hkn : (k : Int) < (n7 : Int) := by omega
        obtain ⟨b2, off, v, rfl, hb, hv, hc⟩ := SlR.cell1 (f := Value.int .i64) (HF.out wr HBr.out).r7 hlt
        have HT : Hid (0 ≤ v ∧ v < (n6 : Int) → ∀ z ∈ x.at_.take (k + 1), 0 ≤ z ∧ z < (n6 : Int)) := Hd (fun hv' z hz => by
         rw [← take_snoc' x.at_ k v hv] at hz
         rcases List.mem_append.1 hz with hz | hz
         ·exact HK.out.1 z hz
         ·rw [List.mem_singleton] at hz; subst hz; exact hv')
        clear hb hv HK
        by_cases g0 : v < 0
        ·have u0 : decide (v < 0) = true := by simpa using g0
         go_wp2_with fail
         go_quiet (fail)
         go_wp2_with fail
         go_ret
         exact ⟨_, rfl, (fun h => by cases h), below_drewN' HWr.out _⟩
        ·have u0 : decide (v < 0) = false := by simpa using g0
         by_cases g1 : v ≥ (n6 : Int)
         ·have u1 : decide (v ≥ (n6 : Int)) = true := by simpa using g1
          go_wp2_with fail
          go_quiet (fail)
          go_wp2_with fail
          go_ret
          exact ⟨_, rfl, (fun h => by cases h), below_drewN' HWr.out _⟩
         ·have u1 : decide (v ≥ (n6 : Int)) = false := by simpa using g1
          have HT2 := Hd (HT.out ⟨by omega, by omega⟩)
          go_wp2_with fail
          go_quiet (fail)
          go_wp2_with fail
          go_roundw
          case rel => exact ⟨k + 1, by go_num, by omega, Hd ⟨HT2.out, below_drewN' HBr.out _⟩⟩
          case measure => simp [intOf]; omega
       ·obtain rfl : k = n7 := by omega
        have HOK : Hid (tabOk x.nodes x.at_ x.live x.code.length) := Hd (.inr ⟨HR3.out (by first | trivial | rfl), by have := HL.out; have := E7.out; omega, by have := HL.out; have := E8.out; omega, fun z hz => by
         have h1 := HK.out.1 z (by rw [List.take_of_length_le (by have := HL.out; omega)]; exact hz)
         have := HL.out
         omega⟩)
        clear HK
        go_wp2_with fail
        go_ret
        exact ⟨_, rfl, (fun _ => HOK.out), HWr.out⟩
    ·have t8 : ((n8 : Int) != (n4 : Int)) = true := by simp; omega
     clear e7 e8
     go_wp2_with fail
     go_ret
     exact ⟨_, rfl, (fun h => by cases h), HW3.out⟩
   ·have t7 : ((n7 : Int) != (n4 : Int)) = true := by simp; omega
    clear e7
    go_wp2_with fail
    go_ret
    exact ⟨_, rfl, (fun h => by cases h), HW3.out⟩
end
end Go.Proofs.YtobmjnmcjddhcaaGreat
