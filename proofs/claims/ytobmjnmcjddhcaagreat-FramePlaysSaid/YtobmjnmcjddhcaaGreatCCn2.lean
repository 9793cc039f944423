import Derived.Test.YtobmjnmcjddhcaaGreatCB1
import Derived.Test.YtobmjnmcjddhcaaGreatCRn6
import Derived.Test.YtobmjnmcjddhcaaGreatCSt1
set_option linter.unusedSimpArgs false
set_option linter.unusedVariables false
set_option maxRecDepth 100000
set_option maxHeartbeats 32000000
namespace Go.Proofs.YtobmjnmcjddhcaaGreat
open Go.RowKit
theorem rbare_any (s : ByteArray) (b : Bool) (A0 : Option Addr) (n0 c0 : Nat) (A1 : Option Addr) (n1 c1 : Nat) (A2 : Option Addr) (n2 c2 : Nat) (A3 : Option Addr) (n3 c3 : Nat) (A4 : Option Addr) (n4 c4 : Nat) (A5 : Option Addr) (n5 c5 : Nat) (A6 : Option Addr) (n6 c6 : Nat) (A7 : Option Addr) (n7 c7 : Nat) (A8 : Option Addr) (n8 c8 : Nat) (w : World) (h6 : n6 ≤ 100000000000000) (h7 : n7 ≤ 100000000000000) (h8 : n8 ≤ 100000000000000) (r : Bool) (hr : r = decide (n6 + n7 + n8 = 0)) :
  Calls Tryz.prog 11 #[.agg #[.string s, .bool b, .slice A0 n0 c0, .slice A1 n1 c1, .slice A2 n2 c2, .slice A3 n3 c3, .slice A4 n4 c4, .slice A5 n5 c5, .slice A6 n6 c6, .slice A7 n7 c7, .slice A8 n8 c8]] w fun e w' => e = .returned (.bool r) ∧ Below w.heap.size w w' := by
 obtain ⟨w1, hw1⟩ : ∃ X, w.alloc (.cells #[.string s, .bool b, .slice A0 n0 c0, .slice A1 n1 c1, .slice A2 n2 c2, .slice A3 n3 c3, .slice A4 n4 c4, .slice A5 n5 c5, .slice A6 n6 c6, .slice A7 n7 c7, .slice A8 n8 c8] 38) = X := ⟨_, rfl⟩
 obtain ⟨g, hg⟩ : ∃ g, w.heap.size = g := ⟨_, rfl⟩
 have hc : Cells w1 g #[.string s, .bool b, .slice A0 n0 c0, .slice A1 n1 c1, .slice A2 n2 c2, .slice A3 n3 c3, .slice A4 n4 c4, .slice A5 n5 c5, .slice A6 n6 c6, .slice A7 n7 c7, .slice A8 n8 c8].toList := by rw [← hw1, ← hg]; exact Cells.new w #[.string s, .bool b, .slice A0 n0 c0, .slice A1 n1 c1, .slice A2 n2 c2, .slice A3 n3 c3, .slice A4 n4 c4, .slice A5 n5 c5, .slice A6 n6 c6, .slice A7 n7 c7, .slice A8 n8 c8].toList _
 have HB : Hid (Below w.heap.size w w1) := Lib.hid (by rw [← hw1]; exact bl_one _)
 have q8 := hc.at_ 8 _ rfl
 have q9 := hc.at_ 9 _ rfl
 have q10 := hc.at_ 10 _ rfl
 clear hc
 have k6 : (n6 : Int) ≤ 100000000000000 := by omega
 have k7 : (n7 : Int) ≤ 100000000000000 := by omega
 have k8 : (n8 : Int) ≤ 100000000000000 := by omega
 have p6 : (0 : Int) ≤ (n6 : Int) := by omega
 have p7 : (0 : Int) ≤ (n7 : Int) := by omega
 have p8 : (0 : Int) ≤ (n8 : Int) := by omega
 by_cases h0 : n6 + n7 + n8 = 0
 ·have HR : Hid (r = true) := Lib.hid (by rw [hr]; simpa using h0)
  have t0 : ((n6 : Int) + (n7 : Int) + (n8 : Int) == 0) = true := by rw [beq_iff_eq]; omega
  clear hr
  go_enter Tryz.func11, Tryz.ntmps11
  go_wp2_with fail
  go_ret
  exact ⟨by rw [HR.out]; rfl, HB.out⟩
 ·have HR : Hid (r = false) := Lib.hid (by rw [hr]; simpa using h0)
  have t0 : ((n6 : Int) + (n7 : Int) + (n8 : Int) == 0) = false := by rw [beq_eq_false_iff_ne]; omega
  clear hr
  go_enter Tryz.func11, Tryz.ntmps11
  go_wp2_with fail
  go_ret
  exact ⟨by rw [HR.out]; rfl, HB.out⟩
def nodeOk (i : Nat) (x : DNode) : Prop := 0 ≤ x.fn ∧ x.fn ≤ 39 ∧ 0 ≤ x.line ∧ x.line ≤ 65535 ∧ 0 ≤ x.args ∧ x.args ≤ 8 ∧ 0 ≤ x.from_ ∧ x.from_ ≤ 256 ∧ x.from_ ≤ x.to_ ∧ x.to_ ≤ 256 ∧ x.args ≤ x.to_ - x.from_ ∧ (i = 0 → x.parent = -1 ∧ x.line = 0 ∧ x.from_ = 0 ∧ x.resume = 0) ∧ (0 < i → 0 ≤ x.parent ∧ x.parent < (i : Int) ∧ 1 ≤ x.resume ∧ x.resume ≤ 1999)
def nodesOk (xs : List DNode) : Prop := 1 ≤ xs.length ∧ xs.length ≤ 120 ∧ ∀ i x, xs[i]? = some x → nodeOk i x
def IsNr (xs : List DNode) (w : World) (e : Ending) (w' : World) : Prop := ∃ b : Bool, e = .returned (.bool b) ∧ (b = true → nodesOk xs) ∧ Below w.heap.size w w'
theorem nright_any (A : Option Addr) (n c : Nat) (xs : List DNode) (w : World) (h : SlN w w.heap.size A n c xs) :
  Calls Tryz.prog 145 #[.slice A n c] w (IsNr xs w) := by
 have HLN := Lib.hid h.1
 by_cases hl : n < 1
 ·have t0 : decide (n < 1) = true := by simpa using hl
  go_enter Tryz.func145, Tryz.ntmps145
  go_wp2_with fail
  go_ret
  exact ⟨_, rfl, (fun h => by cases h), Below.refl _ _⟩
 have t0 : decide (n < 1) = false := by simpa using hl
 by_cases hm : n > 120
 ·have t1 : decide (n > 120) = true := by simpa using hm
  go_enter Tryz.func145, Tryz.ntmps145
  go_wp2_with fail
  go_ret
  exact ⟨_, rfl, (fun h => by cases h), Below.refl _ _⟩
 have t1 : decide (n > 120) = false := by simpa using hm
 have HN : Hid (1 ≤ n ∧ n ≤ 120) := Lib.hid (by omega)
 have HS : Hid (∀ W, Below w.heap.size w W → SlN W w.heap.size A n c xs) := Lib.hid fun W hW => SlR.keep (stable_rc _) h fun p hp => hW.cell hp
 clear h
 go_enter Tryz.func145, Tryz.ntmps145
 go_wp2_with fail
 clear t0 t1 hl hm
 go_loopw [3, 4] (fun tv iv wr => ∃ (k : Nat) (to : Int), tv = .int .i64 to ∧ iv = .int .i64 k ∧ k ≤ n ∧ 0 ≤ to ∧ to ≤ 256 ∧ Hid (Below w.heap.size w wr ∧ ∀ i x, i < k → xs[i]? = some x → nodeOk i x)) (fun _ iv _ => n - (intOf iv).toNat)
 case atStart => exact ⟨0, 0, rfl, rfl, Nat.zero_le _, by omega, by omega, Lib.hid ⟨Below.refl _ _, fun i x hi => by omega⟩⟩
 case round =>
  obtain ⟨k, to, rfl, rfl, hk, ht0, ht1, HK⟩ := hrel
  have hk0 : (0 : Int) ≤ (k : Int) := by omega
  have hkb : (k : Int) ≤ 120 := by have := HN.out; omega
  by_cases hlt : k < n
  ·have hkn : (k : Int) < (n : Int) := by omega
   obtain ⟨b1, off, x, rfl, hb, hx, y0, y1, y2, y3, y4, y5, y6⟩ := sln_at (HS.out wr HK.out.1) hlt
   obtain ⟨ga, hga⟩ : ∃ X, wr.heap.size = X := ⟨_, rfl⟩
   obtain ⟨xp, xf, xl, xo, xg, xt, xr⟩ := x
   dsimp only at y0 y1 y2 y3 y4 y5 y6
   obtain ⟨wa, hwa⟩ : ∃ X, wr.alloc (.cells #[.int .i64 xp, .int .i64 xf, .int .i64 xl, .int .i64 xo, .int .i64 xg, .int .i64 xt, .int .i64 xr] 238) = X := ⟨_, rfl⟩
   have hca : Cells wa ga [.int .i64 xp, .int .i64 xf, .int .i64 xl, .int .i64 xo, .int .i64 xg, .int .i64 xt, .int .i64 xr] := by rw [← hwa]; exact cells_new_at hga [.int .i64 xp, .int .i64 xf, .int .i64 xl, .int .i64 xo, .int .i64 xg, .int .i64 xt, .int .i64 xr] _
   have HBA : Hid (Below w.heap.size w wa) := Lib.hid (HK.out.1.trans ((show Below wr.heap.size wr wa by rw [← hwa]; exact bl_one _).mono HK.out.1.size))
   have z0 := hca.at_ 0 _ rfl
   have z1 := hca.at_ 1 _ rfl
   have z2 := hca.at_ 2 _ rfl
   have z3 := hca.at_ 3 _ rfl
   have z4 := hca.at_ 4 _ rfl
   have z5 := hca.at_ 5 _ rfl
   have z6 := hca.at_ 6 _ rfl
   have HX : Hid (nodeOk k ⟨xp, xf, xl, xo, xg, xt, xr⟩ → ∀ i x, i < k + 1 → xs[i]? = some x → nodeOk i x) := Lib.hid (fun hk i x hi hx' => by
    by_cases e : i = k
    ·subst e
     rw [hx] at hx'
     injection hx' with hx'
     subst hx'
     exact hk
    ·exact HK.out.2 i x (by omega) hx')
   clear hca hx hb HK
   by_cases h0 : xf < 0
   ·have u0 : decide (xf < 0) = true := by simpa using h0
    go_wp2_with fail
    go_ret
    exact ⟨_, rfl, (fun h => by cases h), HBA.out⟩
   have u0 : decide (xf < 0) = false := by simpa using h0
   by_cases h1 : xf > 39
   ·have u1 : decide (xf > 39) = true := by simpa using h1
    go_wp2_with fail
    go_ret
    exact ⟨_, rfl, (fun h => by cases h), HBA.out⟩
   have u1 : decide (xf > 39) = false := by simpa using h1
   by_cases h2 : xl < 0
   ·have u2 : decide (xl < 0) = true := by simpa using h2
    go_wp2_with fail
    go_ret
    exact ⟨_, rfl, (fun h => by cases h), HBA.out⟩
   have u2 : decide (xl < 0) = false := by simpa using h2
   by_cases h3 : xl > 65535
   ·have u3 : decide (xl > 65535) = true := by simpa using h3
    go_wp2_with fail
    go_ret
    exact ⟨_, rfl, (fun h => by cases h), HBA.out⟩
   have u3 : decide (xl > 65535) = false := by simpa using h3
   by_cases h4 : xg < 0
   ·have u4 : decide (xg < 0) = true := by simpa using h4
    go_wp2_with fail
    go_ret
    exact ⟨_, rfl, (fun h => by cases h), HBA.out⟩
   have u4 : decide (xg < 0) = false := by simpa using h4
   by_cases h5 : xg > 8
   ·have u5 : decide (xg > 8) = true := by simpa using h5
    go_wp2_with fail
    go_ret
    exact ⟨_, rfl, (fun h => by cases h), HBA.out⟩
   have u5 : decide (xg > 8) = false := by simpa using h5
   by_cases h6 : xo < to
   ·have u6 : decide (xo < to) = true := by simpa using h6
    go_wp2_with fail
    go_ret
    exact ⟨_, rfl, (fun h => by cases h), HBA.out⟩
   have u6 : decide (xo < to) = false := by simpa using h6
   by_cases h7 : xo > 256
   ·have u7 : decide (xo > 256) = true := by simpa using h7
    go_wp2_with fail
    go_ret
    exact ⟨_, rfl, (fun h => by cases h), HBA.out⟩
   have u7 : decide (xo > 256) = false := by simpa using h7
   by_cases h8 : xt < xo
   ·have u8 : decide (xt < xo) = true := by simpa using h8
    go_wp2_with fail
    go_ret
    exact ⟨_, rfl, (fun h => by cases h), HBA.out⟩
   have u8 : decide (xt < xo) = false := by simpa using h8
   by_cases h9 : xt > 256
   ·have u9 : decide (xt > 256) = true := by simpa using h9
    go_wp2_with fail
    go_ret
    exact ⟨_, rfl, (fun h => by cases h), HBA.out⟩
   have u9 : decide (xt > 256) = false := by simpa using h9
   by_cases h10 : xt - xo < xg
   ·have u10 : decide (xt - xo < xg) = true := by simpa using h10
    go_wp2_with fail
    go_ret
    exact ⟨_, rfl, (fun h => by cases h), HBA.out⟩
   have u10 : decide (xt - xo < xg) = false := by simpa using h10
   by_cases hk1 : k = 0
   ·have HK1 := Lib.hid hk1
    have e0 : ((k : Int) == 0) = true := by rw [beq_iff_eq]; omega
    have e1 : decide ((k : Int) > 0) = false := by rw [decide_eq_false_iff_not]; omega
    have e2 : decide (k > 0) = false := by rw [decide_eq_false_iff_not]; omega
    have e3 : (k == 0) = true := by simpa using hk1
    clear hk1
    by_cases g0 : ¬ xp = -1
    ·have v0 : (xp != -1) = true := by simpa using g0
     go_wp2_with fail
     go_ret
     exact ⟨_, rfl, (fun h => by cases h), HBA.out⟩
    have v0 : (xp != -1) = false := by simpa using g0
    have G0 : Hid (xp = -1) := Lib.hid (by omega)
    clear g0
    by_cases g1 : ¬ xl = 0
    ·have v1 : (xl != 0) = true := by simpa using g1
     go_wp2_with fail
     go_ret
     exact ⟨_, rfl, (fun h => by cases h), HBA.out⟩
    have v1 : (xl != 0) = false := by simpa using g1
    have G1 : Hid (xl = 0) := Lib.hid (by omega)
    clear g1
    by_cases g2 : ¬ xo = 0
    ·have v2 : (xo != 0) = true := by simpa using g2
     go_wp2_with fail
     go_ret
     exact ⟨_, rfl, (fun h => by cases h), HBA.out⟩
    have v2 : (xo != 0) = false := by simpa using g2
    have G2 : Hid (xo = 0) := Lib.hid (by omega)
    clear g2
    by_cases g3 : ¬ xr = 0
    ·have v3 : (xr != 0) = true := by simpa using g3
     go_wp2_with fail
     go_ret
     exact ⟨_, rfl, (fun h => by cases h), HBA.out⟩
    have v3 : (xr != 0) = false := by simpa using g3
    have G3 : Hid (xr = 0) := Lib.hid (by omega)
    clear g3
    have HND : Hid (∀ i x, i < k + 1 → xs[i]? = some x → nodeOk i x) := Lib.hid (HX.out (by
     unfold nodeOk
     dsimp only
     exact ⟨by omega, by omega, by omega, by omega, by omega, by omega, by omega, by omega, by omega, by omega, by omega, (fun _ => ⟨G0.out, G1.out, G2.out, G3.out⟩), (fun h => by have := HK1.out; omega)⟩))
    go_wp2_with fail
    go_roundw
    case rel => exact ⟨k + 1, xt, rfl, by go_num, by omega, by omega, by omega, Lib.hid ⟨HBA.out, HND.out⟩⟩
    case measure => simp [intOf]; omega
   ·have e0 : ((k : Int) == 0) = false := by rw [beq_eq_false_iff_ne]; omega
    have e1 : decide ((k : Int) > 0) = true := by rw [decide_eq_true_eq]; omega
    have e2 : decide (k > 0) = true := by rw [decide_eq_true_eq]; omega
    have e3 : (k == 0) = false := by simpa using hk1
    by_cases g0 : xp < 0
    ·have v0 : decide (xp < 0) = true := by simpa using g0
     go_wp2_with fail
     go_ret
     exact ⟨_, rfl, (fun h => by cases h), HBA.out⟩
    have v0 : decide (xp < 0) = false := by simpa using g0
    by_cases g1 : xp ≥ (k : Int)
    ·have v1 : decide (xp ≥ (k : Int)) = true := by simpa using g1
     go_wp2_with fail
     go_ret
     exact ⟨_, rfl, (fun h => by cases h), HBA.out⟩
    have v1 : decide (xp ≥ (k : Int)) = false := by simpa using g1
    by_cases g2 : xr < 1
    ·have v2 : decide (xr < 1) = true := by simpa using g2
     go_wp2_with fail
     go_ret
     exact ⟨_, rfl, (fun h => by cases h), HBA.out⟩
    have v2 : decide (xr < 1) = false := by simpa using g2
    by_cases g3 : xr > 1999
    ·have v3 : decide (xr > 1999) = true := by simpa using g3
     go_wp2_with fail
     go_ret
     exact ⟨_, rfl, (fun h => by cases h), HBA.out⟩
    have v3 : decide (xr > 1999) = false := by simpa using g3
    have HND : Hid (∀ i x, i < k + 1 → xs[i]? = some x → nodeOk i x) := Lib.hid (HX.out (by
     unfold nodeOk
     dsimp only
     exact ⟨by omega, by omega, by omega, by omega, by omega, by omega, by omega, by omega, by omega, by omega, by omega, fun _ => by omega, fun _ => by omega⟩))
    go_wp2_with fail
    go_roundw
    case rel => exact ⟨k + 1, xt, rfl, by go_num, by omega, by omega, by omega, Lib.hid ⟨HBA.out, HND.out⟩⟩
    case measure => simp [intOf]; omega
  ·obtain rfl : k = n := by omega
   go_wp2_with fail
   go_ret
   exact ⟨_, rfl, (fun _ => ⟨by have := HN.out; have := HLN.out; omega, by have := HN.out; have := HLN.out; omega, fun i x hx => HK.out.2 i x (by have := (List.getElem?_eq_some_iff.1 hx).1; have := HLN.out; omega) hx⟩), HK.out.1⟩
end Go.Proofs.YtobmjnmcjddhcaaGreat
