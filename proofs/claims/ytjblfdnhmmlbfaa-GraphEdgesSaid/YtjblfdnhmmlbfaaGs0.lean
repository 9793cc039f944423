/-
  Graphs of programs: what is read of a program: its functions' code; whether there is a function.
-/
import Derived.Test.YtjblfdnhmmlbfaaGsT
import Derived.Test.YtjblfdnhmmlbfaaCel
import Derived.Test.YtjblfdnhmmlbfaaMtN
import Derived.Test.YtjblfdnhmmlbfaaApp
import Derived.Test.YtjblfdnhmmlbfaaKp
import Derived.Test.YtjblfdnhmmlbfaaHeld
import Derived.BigRegion
import Derived.BigQuiet
import Derived.Deep.Cut
import Derived.Deep.RegionWith
import Derived.OrdersHeld
namespace Go.Proofs.Ytjblfdnhmmlbfaa
open Go.RowKit
set_option linter.unusedSimpArgs false
set_option linter.unusedVariables false
def cellsI (x : DInstr) : List Value := [.int .i64 x.op, .int .i64 x.a]
/-- A function as it lies: its eleven cells, and its code. -/
def RCode : Rd (List DInstr) := fun w B cs C => ∃ (s : ByteArray) (b : Bool), ∃ A0 n0 c0, ∃ A1 n1 c1, ∃ A2 n2 c2, ∃ A3 n3 c3, ∃ A4 n4 c4, ∃ A5 n5 c5, ∃ A6 n6 c6, ∃ A7 n7 c7, ∃ A8 n8 c8, cs = [.string s, .bool b, .slice A0 n0 c0, .slice A1 n1 c1, .slice A2 n2 c2, .slice A3 n3 c3, .slice A4 n4 c4, .slice A5 n5 c5, .slice A6 n6 c6, .slice A7 n7 c7, .slice A8 n8 c8] ∧ SlR 2 16 (RC cellsI) w B A4 n4 c4 C
theorem stable_code : Stable RCode := by
  intro w w' B cs C h hk
  obtain ⟨s, b, A0, n0, c0, A1, n1, c1, A2, n2, c2, A3, n3, c3, A4, n4, c4, A5, n5, c5, A6, n6, c6, A7, n7, c7, A8, n8, c8, e, q⟩ := h
  exact ⟨s, b, A0, n0, c0, A1, n1, c1, A2, n2, c2, A3, n3, c3, A4, n4, c4, A5, n5, c5, A6, n6, c6, A7, n7, c7, A8, n8, c8, e, SlR.keep (stable_rc _) q hk⟩
abbrev PgW (w : World) (B : Nat) (FA : Option Addr) (fn fc : Nat) (codes : List (List DInstr)) : Prop := SlR 11 240 RCode w B FA fn fc codes
theorem PgW.keep {w w' : World} {B : Nat} {FA : Option Addr} {fn fc : Nat} {codes : List (List DInstr)} (h : PgW w B FA fn fc codes) (hb : Below B w w') : PgW w' B FA fn fc codes := SlR.keep stable_code h fun p hp => hb.cell hp
theorem pgw_of {w : World} {B : Nat} {FA : Option Addr} {fn fc : Nat} {fs : List DFunc} (h : SlR 11 240 RFunc w B FA fn fc fs) : PgW w B FA fn fc (fs.map DFunc.code) := by
  obtain ⟨h1, h2, h3, h4, h5⟩ := h
  refine ⟨by simpa using h1, h2, h3, h4, fun hn => ?_⟩
  obtain ⟨b, off, hA, hb, hx⟩ := h5 hn
  refine ⟨b, off, hA, hb, fun i x hi => ?_⟩
  rw [List.getElem?_map] at hi
  cases hxi : fs[i]? with
  | none => rw [hxi] at hi; cases hi
  | some y =>
    rw [hxi] at hi
    simp at hi
    subst hi
    obtain ⟨cs, hl, hc, A0, n0, c0, A1, n1, c1, A2, n2, c2, A3, n3, c3, A4, n4, c4, A5, n5, c5, A6, n6, c6, A7, n7, c7, A8, n8, c8, e, q0, q1, q2, q3, q4, q5, q6, q7, q8, q9⟩ := hx i y hxi
    exact ⟨cs, hl, hc, y.name, y.inner, A0, n0, c0, A1, n1, c1, A2, n2, c2, A3, n3, c3, A4, n4, c4, A5, n5, c5, A6, n6, c6, A7, n7, c7, A8, n8, c8, e, q5.imp fun cs x _ hr => hr.1⟩
theorem PgW.at_ {w : World} {B : Nat} {FA : Option Addr} {fn fc : Nat} {codes : List (List DInstr)} (h : PgW w B FA fn fc codes) {i : Nat} (hi : i < fn) :
    ∃ b off Ac nc cc C, FA = some ⟨b, off, none⟩ ∧ b < B ∧ codes[i]? = some C ∧ w.cell? ⟨b, off + i * 11 + 6, none⟩ = some (.slice Ac nc cc) ∧ SlR 2 16 (RC cellsI) w B Ac nc cc C := by
  obtain ⟨b, off, C, cs, hA, hb, hx, hl, hc, s, bb, A0, n0, c0, A1, n1, c1, A2, n2, c2, A3, n3, c3, A4, n4, c4, A5, n5, c5, A6, n6, c6, A7, n7, c7, A8, n8, c8, e, q⟩ := SlR.at_ h hi
  subst e
  exact ⟨b, off, A4, n4, c4, C, hA, hb, hx, by simpa [Nat.add_assoc] using hc 6 _ rfl, q⟩
theorem code_at {w : World} {B : Nat} {A : Option Addr} {n c : Nat} {C : List DInstr} (h : SlR 2 16 (RC cellsI) w B A n c C) {k : Nat} (hk : k < n) : ∃ b off x, A = some ⟨b, off, none⟩ ∧ b < B ∧ C[k]? = some x ∧ w.cell? ⟨b, off + k * 2, none⟩ = some (.int .i64 x.op) ∧ w.cell? ⟨b, off + k * 2 + 1, none⟩ = some (.int .i64 x.a) := by
  obtain ⟨b, off, x, cs, hA, hb, hx, _, hc, hr⟩ := SlR.at_ h hk
  unfold RC at hr
  subst hr
  exact ⟨b, off, x, hA, hb, hx, by simpa using hc 0 _ rfl, by simpa [Nat.add_assoc] using hc 1 _ rfl⟩

set_option maxRecDepth 100000 in
theorem is_any (FA : Option Addr) (fn fc : Nat) (f : Int) (r : Bool) (hr : r = decide (0 ≤ f ∧ f < (fn : Int))) (w : World) : Calls Try.prog 21 #[.agg #[.slice FA fn fc], .int .i64 f] w fun e w' => e = .returned (.bool r) ∧ Below w.heap.size w w' := by
  have HB : Hid (Below w.heap.size w (w.alloc (.cells #[.slice FA fn fc] 24))) := Lib.hid (bl_one _)
  by_cases h0 : 0 ≤ f
  · have t0 : decide (f ≥ 0) = true := by simpa using h0
    by_cases h1 : f < (fn : Int)
    · have t1 : decide (f < (fn : Int)) = true := by simpa using h1
      have HR : Hid (r = true) := Lib.hid (by rw [hr]; simp [h0, h1])
      clear hr
      go_enter Try.func21, Try.ntmps21
      go_wp2_with fail
      go_ret
      exact ⟨by rw [HR.out]; rfl, HB.out⟩
    · have t1 : decide (f < (fn : Int)) = false := by simpa using h1
      have HR : Hid (r = false) := Lib.hid (by rw [hr]; simp [h1])
      clear hr
      go_enter Try.func21, Try.ntmps21
      go_wp2_with fail
      go_ret
      exact ⟨by rw [HR.out]; rfl, HB.out⟩
  · have t0 : decide (f ≥ 0) = false := by simpa using h0
    have HR : Hid (r = false) := Lib.hid (by rw [hr]; simp [h0])
    clear hr
    go_enter Try.func21, Try.ntmps21
    go_wp2_with fail
    go_ret
    exact ⟨by rw [HR.out]; rfl, HB.out⟩

set_option maxRecDepth 100000 in
theorem ris_any (FA : Option Addr) (fn fc : Nat) (f : Int) (r : Bool) (hr : r = decide (0 ≤ f ∧ f < (fn : Int))) (w : World) : Calls Try.prog 20 #[.agg #[.slice FA fn fc], .int .i64 f] w fun e w' => e = .returned (.bool r) ∧ Below w.heap.size w w' := by
  have HB : Hid (Below w.heap.size w (w.alloc (.cells #[.slice FA fn fc] 24))) := Lib.hid (bl_one _)
  by_cases h0 : 0 ≤ f
  · have t0 : decide (f ≥ 0) = true := by simpa using h0
    by_cases h1 : f < (fn : Int)
    · have t1 : decide (f < (fn : Int)) = true := by simpa using h1
      have HR : Hid (r = true) := Lib.hid (by rw [hr]; simp [h0, h1])
      clear hr
      go_enter Try.func20, Try.ntmps20
      go_wp2_with fail
      go_ret
      exact ⟨by rw [HR.out]; rfl, HB.out⟩
    · have t1 : decide (f < (fn : Int)) = false := by simpa using h1
      have HR : Hid (r = false) := Lib.hid (by rw [hr]; simp [h1])
      clear hr
      go_enter Try.func20, Try.ntmps20
      go_wp2_with fail
      go_ret
      exact ⟨by rw [HR.out]; rfl, HB.out⟩
  · have t0 : decide (f ≥ 0) = false := by simpa using h0
    have HR : Hid (r = false) := Lib.hid (by rw [hr]; simp [h0])
    clear hr
    go_enter Try.func20, Try.ntmps20
    go_wp2_with fail
    go_ret
    exact ⟨by rw [HR.out]; rfl, HB.out⟩

end Go.Proofs.Ytjblfdnhmmlbfaa
