import Derived.Test.YtobmjnmcjddhcaaGreatCFi0
import Derived.Test.YtobmjnmcjddhcaaGreatCB1
set_option linter.unusedSimpArgs false
set_option linter.unusedVariables false
set_option maxRecDepth 100000
set_option maxHeartbeats 16000000
namespace Go.Proofs.YtobmjnmcjddhcaaGreat
open Go.RowKit
def cS (s : ByteArray) : List Value := [.string s]
abbrev SlT (w : World) (B : Nat) (A : Option Addr) (n c : Nat) (xs : List ByteArray) : Prop := SlR 1 16 (RC cS) w B A n c xs
theorem slt_at {w : World} {B : Nat} {A : Option Addr} {n c : Nat} {xs : List ByteArray} (h : SlT w B A n c xs) {k : Nat} (hk : k < n) : ∃ b off x, A = some ⟨b, off, none⟩ ∧ b < B ∧ xs[k]? = some x ∧ w.cell? ⟨b, off + k, none⟩ = some (.string x) := by
 obtain ⟨b, off, x, cs, hA, hb, hx, _, hc, hr⟩ := SlR.at_ h hk
 unfold RC cS at hr
 subst hr
 exact ⟨b, off, x, hA, hb, hx, by simpa using hc 0 _ rfl⟩
theorem SlT.on {w w' : World} {A : Option Addr} {n c : Nat} {xs : List ByteArray} (h : SlT w w.heap.size A n c xs) (hb : Below w.heap.size w w') : SlT w' w'.heap.size A n c xs := (SlR.keep (stable_rc _) h fun p hp => hb.cell hp).more hb.size
def IsInt (w : World) (e : Ending) (w' : World) : Prop := (∃ r : Int, e = .returned (.int .i64 r)) ∧ Below w.heap.size w w'
theorem rfind_any (A : Option Addr) (n c : Nat) (xs : List ByteArray) (s : ByteArray) (w : World) (h : SlT w w.heap.size A n c xs) (hn : n ≤ 100) :
  Calls Tryz.prog 117 #[.slice A n c, .string s] w (IsInt w) := by
 have H := Lib.hid h
 have hn0 : (n : Int) ≤ 100 := by omega
 clear h
 go_enter Tryz.func117, Tryz.ntmps117
 go_wp2_with fail
 go_loopw [5] (fun iv wr => ∃ k : Nat, iv = .int .i64 (k : Int) ∧ k ≤ n ∧ wr = w) (fun iv _ => n - (intOf iv).toNat)
 case atStart => exact ⟨0, rfl, Nat.zero_le _, rfl⟩
 case round =>
  obtain ⟨k, rfl, hk, rfl⟩ := hrel
  have hk0 : (0 : Int) ≤ (k : Int) := by omega
  have hk1 : (k : Int) ≤ 100 := by omega
  by_cases hlt : k < n
  ·have hkn : (k : Int) < (n : Int) := by omega
   obtain ⟨b, off, z, rfl, hb, hz, q0⟩ := slt_at H.out hlt
   clear hz
   cases t : (z.toList == s.toList) with
   | true =>
    go_wp2_with fail
    go_ret
    exact ⟨⟨_, rfl⟩, Below.refl _ _⟩
   | false =>
    go_wp2_with fail
    go_roundw
    case rel => exact ⟨k + 1, by go_num, by omega, trivial⟩
    case measure => simp [intOf]; omega
  ·obtain rfl : k = n := by omega
   go_wp2_with fail
   go_ret
   exact ⟨⟨_, rfl⟩, Below.refl _ _⟩
theorem runlike_any (A : Option Addr) (n c : Nat) (xs : List ByteArray) (w : World) (h : SlT w w.heap.size A n c xs) (hn : n ≤ 100) :
  Calls Tryz.prog 92 #[.slice A n c] w (IsBool w) := by
 have H := Lib.hid h
 have hn0 : (n : Int) ≤ 100 := by omega
 clear h
 go_enter Tryz.func92, Tryz.ntmps92
 go_wp2_with fail
 go_loopw [3] (fun iv wr => ∃ k : Nat, iv = .int .i64 (k : Int) ∧ k ≤ n ∧ Hid (Below w.heap.size w wr)) (fun iv _ => n - (intOf iv).toNat)
 case atStart => exact ⟨0, rfl, Nat.zero_le _, Lib.hid (Below.refl _ _)⟩
 case round =>
  obtain ⟨k, rfl, hk, HB⟩ := hrel
  have hk0 : (0 : Int) ≤ (k : Int) := by omega
  have hk1 : (k : Int) ≤ 100 := by omega
  by_cases hlt : k < n
  ·have hkn : (k : Int) < (n : Int) := by omega
   have H2 := Lib.hid (SlT.on H.out HB.out)
   obtain ⟨b, off, z, rfl, hb, hz, q0⟩ := slt_at H2.out hlt
   have cF := Lib.hid (rfind_any (some ⟨b, off, none⟩) n c xs z wr H2.out (by omega))
   clear hz hb
   go_wp2_with fail
   refine cF.out.mono ?_
   rintro e w2 ⟨⟨r, rfl⟩, hb2⟩
   have HB2 : Hid (Below w.heap.size w w2) := Lib.hid (HB.out.trans (hb2.mono HB.out.size))
   clear hb2 q0 cF
   cases t : (r != (k : Int)) with
   | true =>
    go_wp2_with fail
    go_ret
    exact ⟨⟨_, rfl⟩, HB2.out⟩
   | false =>
    go_wp2_with fail
    go_roundw
    case rel => exact ⟨k + 1, by go_num, by omega, HB2⟩
    case measure => simp [intOf]; omega
  ·obtain rfl : k = n := by omega
   go_wp2_with fail
   go_ret
   exact ⟨⟨_, rfl⟩, HB.out⟩
theorem info_str : (Tryz.prog.info? 9).map (fun i => (i.zero, i.size, i.bytes)) = some (some (.string ByteArray.empty), 1, 16) := by kernel_rfl
def IsNm (n : Nat) (w : World) (e : Ending) (w' : World) : Prop := ∃ A c xs, e = .returned (.slice A n c) ∧ SlT w' w'.heap.size A n c xs ∧ Below w.heap.size w w'
theorem rnames_any (FA : Option Addr) (fn fc : Nat) (fs : List DFunc) (w : World) (h : PgO w FA fn fc fs) :
  Calls Tryz.prog 93 #[.agg #[.slice FA fn fc]] w (IsNm fn w) := by
 obtain ⟨i0, hi, hz0, hz1, hz2⟩ := info_parts info_str
 obtain ⟨w1, hw1⟩ : ∃ X, w.alloc (.cells #[.slice FA fn fc] 24) = X := ⟨_, rfl⟩
 obtain ⟨g, hg⟩ : ∃ g, w.heap.size = g := ⟨_, rfl⟩
 have hb1 : Below w.heap.size w w1 := by rw [← hw1]; exact bl_one _
 have hc1 : Cells w1 g [.slice FA fn fc] := by rw [← hw1, ← hg]; exact Cells.new w [.slice FA fn fc] _
 have EQ : Hid (∀ W, Below w1.heap.size w1 W → W.cell? ⟨g, 0, none⟩ = some (.slice FA fn fc)) := Lib.hid fun W hW => (hc1.on hW).at_ 0 _ rfl
 have HP : Hid (∀ W, Below w1.heap.size w1 W → PgO W FA fn fc fs) := Lib.hid fun W hW => h.on (hb1.trans (hW.mono hb1.size))
 have HB1 := Lib.hid hb1
 have hfn := h.le
 have hn0 : (fn : Int) ≤ 50 := by omega
 clear h hb1 hc1
 go_enter Tryz.func93, Tryz.ntmps93
 go_wp2_with fail
 clear hw1 hg
 go_loopw [3, 4] (fun ov iv wr => ∃ (k : Nat) (A' : Option Addr) (c' : Nat), ov = .slice A' k c' ∧ iv = .int .i64 (k : Int) ∧ k ≤ fn ∧ Hid (∃ l : List ByteArray, wr.ownsRow w1.heap.size 9 1 (.slice A' k c') k (l.flatMap cS) ∧ Below w1.heap.size w1 wr)) (fun _ iv _ => fn - (intOf iv).toNat)
 case atStart => exact ⟨0, none, 0, rfl, rfl, Nat.zero_le _, Lib.hid ⟨[], ⟨rfl, .inl ⟨rfl, rfl⟩⟩, Below.refl _ _⟩⟩
 case round =>
  obtain ⟨k, A', c', rfl, rfl, hk, HK⟩ := hrel
  obtain ⟨l, hown, hbw⟩ := HK.out
  have HO := Lib.hid hown
  have HB := Lib.hid hbw
  have q0 := EQ.out wr hbw
  have hk0 : (0 : Int) ≤ (k : Int) := by omega
  have hk1 : (k : Int) ≤ 50 := by omega
  clear hown hbw HK
  by_cases hlt : k < fn
  ·have hkn : (k : Int) < (fn : Int) := by omega
   obtain ⟨b, off, V, x, rfl, hb, hx, hq, -⟩ := (HP.out wr HB.out).at_ hlt
   have y0 := hq.e0
   obtain ⟨s, hs⟩ : ∃ s, V.s = s := ⟨_, rfl⟩
   rw [hs] at y0
   have hZ : Hid (w1.heap.size ≤ wr.heap.size) := Lib.hid HB.out.size
   have hsrc : Hid (SrcCells (wr.alloc (.cells #[.string s] 9)) (some ⟨wr.heap.size, 0, none⟩) 1 1 [.string s]) := Lib.hid (own_src (World.ownsRow_lit (base := wr.heap.size) (e := 9) (size := 1) wr #[.string s] 1 (Nat.le_refl _) (by unfold maxLen; omega) rfl))
   clear hq hx hs hb
   go_wp2_with (first
     | (at_builtin; go_must (refine wpList_append_src _ rfl _ _ 173 rfl w1.heap.size 9 i0 (.string ByteArray.empty) 1 16 Tryz.underlying173 hi hz0 hz1 hz2 rfl (by decide) _ _ _ rfl (HO.out.alloc _) (some ⟨wr.heap.size, 0, none⟩) 1 1 [.string s] rfl hsrc.out (fun u hu => by simp at hu; subst hu; rfl) (by unfold maxLen; omega) (by omega) (by have := hZ.out; simp; omega) ?_)
        intro v' w7 hown' hgrow3 hat3
        obtain ⟨A2, c2, rfl, _⟩ := own_form hown'
        have XR : Hid (w7.ownsRow w1.heap.size 9 1 (.slice A2 (k + 1) c2) (k + 1) ((l ++ [s]).flatMap cS)) := Lib.hid (by rw [List.flatMap_append]; simpa [cS] using hown')
        have XB : Hid (Below w1.heap.size w1 w7) := Lib.hid (Below.grown (HB.out.alloc hZ.out _) hgrow3 (by have := hZ.out; simp; omega) (fun j hj => (HO.out.lt _ hj).1))
        clear hown' hgrow3 hat3)
     | fail)
   go_roundw
   case rel => exact ⟨k + 1, A2, c2, rfl, by go_num, by omega, Lib.hid ⟨_, XR.out, XB.out⟩⟩
   case measure => simp [intOf]; omega
  ·obtain rfl : k = fn := by omega
   go_wp2_with fail
   go_ret
   exact ⟨A', c', l, rfl, SlR.of_ownN (sz := 1) (bytes := 16) (f := cS) (fun _ => rfl) (by omega) HO.out (by unfold reachBytes; omega), HB1.out.trans (HB.out.mono HB1.out.size)⟩
def IsCanP (fs : List DFunc) (w : World) (e : Ending) (w' : World) : Prop := ∃ r : Int, e = .returned (.int .i64 r) ∧ (r = 0 → 1 ≤ fs.length ∧ fs.length ≤ 40 ∧ ∀ x ∈ fs, canOk x) ∧ Below w.heap.size w w'
theorem canp_any (FA : Option Addr) (fn fc : Nat) (fs : List DFunc) (w : World) (h : PgO w FA fn fc fs) :
  Calls Tryz.prog 64 #[.agg #[.slice FA fn fc]] w (IsCanP fs w) := by
 obtain ⟨w1, hw1⟩ : ∃ X, w.alloc (.cells #[.slice FA fn fc] 24) = X := ⟨_, rfl⟩
 obtain ⟨g, hg⟩ : ∃ g, w.heap.size = g := ⟨_, rfl⟩
 have hb1 : Below w.heap.size w w1 := by rw [← hw1]; exact bl_one _
 have hc1 : Cells w1 g [.slice FA fn fc] := by rw [← hw1, ← hg]; exact Cells.new w [.slice FA fn fc] _
 have EQ : Hid (∀ W, Below w1.heap.size w1 W → W.cell? ⟨g, 0, none⟩ = some (.slice FA fn fc)) := Lib.hid fun W hW => (hc1.on hW).at_ 0 _ rfl
 have HP : Hid (∀ W, Below w1.heap.size w1 W → PgO W FA fn fc fs) := Lib.hid fun W hW => h.on (hb1.trans (hW.mono hb1.size))
 have HB1 := Lib.hid hb1
 have HBW : Hid (∀ W, Below w1.heap.size w1 W → Below w.heap.size w W) := Lib.hid fun W hW => hb1.trans (hW.mono hb1.size)
 have hfn := h.le
 have HLN : Hid (fs.length = fn) := Lib.hid h.len
 have hn0 : (fn : Int) ≤ 50 := by omega
 have hn1 : (0 : Int) ≤ (fn : Int) := by omega
 have q0 := EQ.out w1 (Below.refl _ _)
 clear h hb1 hc1
 go_enter Tryz.func64, Tryz.ntmps64
 by_cases h1 : fn < 1
 ·have t0 : decide ((fn : Int) < 1) = true := by rw [decide_eq_true_eq]; omega
  have t1 : decide (fn < 1) = true := by rw [decide_eq_true_eq]; omega
  go_wp2_with fail
  go_ret
  exact ⟨6, rfl, (fun h => by cases h), HB1.out⟩
 have t0 : decide ((fn : Int) < 1) = false := by rw [decide_eq_false_iff_not]; omega
 have t0' : decide (fn < 1) = false := by rw [decide_eq_false_iff_not]; omega
 by_cases h2 : 40 < fn
 ·have t1 : decide ((fn : Int) > 40) = true := by rw [decide_eq_true_eq]; omega
  have t1' : decide (40 < fn) = true := by rw [decide_eq_true_eq]; omega
  go_wp2_with fail
  go_ret
  exact ⟨6, rfl, (fun h => by cases h), HB1.out⟩
 have t1 : decide ((fn : Int) > 40) = false := by rw [decide_eq_false_iff_not]; omega
 have t1' : decide (40 < fn) = false := by rw [decide_eq_false_iff_not]; omega
 go_wp2_with fail
 clear hw1 hg q0
 go_loopw [3] (fun iv wr => ∃ k : Nat, iv = .int .i64 (k : Int) ∧ k ≤ fn ∧ Hid ((∀ x ∈ fs.take k, canOk x) ∧ Below w1.heap.size w1 wr)) (fun iv _ => fn - (intOf iv).toNat)
 case atStart => exact ⟨0, rfl, Nat.zero_le _, Lib.hid ⟨by simp, Below.refl _ _⟩⟩
 case round =>
  obtain ⟨k, rfl, hk, HK⟩ := hrel
  have q0 := EQ.out wr HK.out.2
  have hk0 : (0 : Int) ≤ (k : Int) := by omega
  have hk1 : (k : Int) ≤ 50 := by omega
  by_cases hlt : k < fn
  ·have hkn : (k : Int) < (fn : Int) := by omega
   obtain ⟨b, off, V, x, rfl, hb, hx, hq, hfv, -⟩ := (HP.out wr HK.out.2).at_ hlt
   have cC := Lib.hid (can_any V.s V.b V.A0 V.n0 V.c0 V.A1 V.n1 V.c1 V.A2 V.n2 V.c2 V.A3 V.n3 V.c3 V.A4 V.n4 V.c4 V.A5 V.n5 V.c5 V.A6 V.n6 V.c6 V.A7 V.n7 V.c7 V.A8 V.n8 V.c8 x wr hfv)
   obtain ⟨e0, e1, e2, e3, e4, e5, e6, e7, e8, e9, e10⟩ := hq
   have HT : Hid (canOk x → ∀ y ∈ fs.take (k + 1), canOk y) := Lib.hid (fun hs y hy => by
    rw [← take_snoc' fs k x hx] at hy
    rcases List.mem_append.1 hy with hy | hy
    ·exact HK.out.1 y hy
    ·rw [List.mem_singleton] at hy; subst hy; exact hs)
   clear hx hb hfv
   go_wp2_with fail
   refine cC.out.mono ?_
   rintro e w2 ⟨r, rfl, hr, hb2⟩
   have HB2 : Hid (Below w1.heap.size w1 w2) := Lib.hid (HK.out.2.trans (hb2.mono HK.out.2.size))
   have HR := Lib.hid hr
   clear hb2 q0 cC e0 e1 e2 e3 e4 e5 e6 e7 e8 e9 e10 hr
   by_cases hr0 : r = 0
   ·subst hr0
    have HT2 := Lib.hid (HT.out (HR.out rfl))
    go_wp2_with fail
    go_roundw
    case rel => exact ⟨k + 1, by go_num, by omega, Lib.hid ⟨HT2.out, HB2.out⟩⟩
    case measure => simp [intOf]; omega
   ·have t3 : (r != 0) = true := by simpa using hr0
    go_wp2_with fail
    go_ret
    exact ⟨r, rfl, (fun h => absurd h hr0), HBW.out _ HB2.out⟩
  ·obtain rfl : k = fn := by omega
   have HALL : Hid (1 ≤ fs.length ∧ fs.length ≤ 40 ∧ ∀ x ∈ fs, canOk x) := Lib.hid ⟨by have := HLN.out; omega, by have := HLN.out; omega, by have h1 := HK.out.1; rw [List.take_of_length_le (by have := HLN.out; omega)] at h1; exact h1⟩
   have cN := Lib.hid (rnames_any FA k fc fs wr (HP.out wr HK.out.2))
   have HBr := Lib.hid HK.out.2
   go_wp2_with fail
   refine cN.out.mono ?_
   rintro e w2 ⟨A, c, xs, rfl, hsl, hb2⟩
   have HB2 : Hid (Below w1.heap.size w1 w2) := Lib.hid (HBr.out.trans (hb2.mono HBr.out.size))
   have cU := Lib.hid (runlike_any A k c xs w2 hsl (by omega))
   clear hb2 hsl q0 cN
   go_wp2_with fail
   refine cU.out.mono ?_
   rintro e w3 ⟨⟨r, rfl⟩, hb3⟩
   have HB3 : Hid (Below w1.heap.size w1 w3) := Lib.hid (HB2.out.trans (hb3.mono HB2.out.size))
   clear hb3 cU
   cases r with
   | true =>
    go_wp2_with fail
    go_ret
    exact ⟨0, rfl, fun _ => HALL.out, HBW.out _ HB3.out⟩
   | false =>
    go_wp2_with fail
    go_ret
    exact ⟨7, rfl, (fun h => by cases h), HBW.out _ HB3.out⟩
end Go.Proofs.YtobmjnmcjddhcaaGreat
