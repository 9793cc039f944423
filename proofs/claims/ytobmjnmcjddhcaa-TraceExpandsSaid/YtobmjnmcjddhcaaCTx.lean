/-
  Several texts in one.
-/
import Derived.Test.YtobmjnmcjddhcaaCB1
import Derived.Test.YtobmjnmcjddhcaaCTr5
import Derived.BigQuiet
namespace Go.Proofs.Ytobmjnmcjddhcaa
open Go.ChangeShapes Go.WideShapes Go.ChangeAt Go.RowKit Go.Deep
set_option linter.unusedSimpArgs false
set_option linter.unusedVariables false

structure DPlace where
  fn : Int
  pc : Int
def RPlace : Rd DPlace := fun w B cs x => cs = [.int .i64 x.fn, .int .i64 x.pc] ∧ (Lit.int .i64 x.fn).wf = true ∧ (Lit.int .i64 x.pc).wf = true
theorem stable_Place : Stable RPlace := by
  intro w w' B cs x h hk
  obtain ⟨e, q0, q1⟩ := h
  exact ⟨e, q0, q1⟩
set_option maxRecDepth 100000 in
theorem conv_Place : Conv Try.prog 31 RPlace := by
  intro H enc w B fuel cs y h hp hw
  obtain ⟨ys, n, hn, rfl, hcl, hyl, hf⟩ := DataW.trod_struct Try.underlying31 h
  rw [show Try.prog.cellsOf 31 = 2 from by kernel_rfl] at hcl
  obtain ⟨k0, k1, rfl⟩ := len2 hcl
  obtain ⟨y0, y1, rfl⟩ := len2 hyl
  have g0 : DataW.trod enc Try.prog w 0 (fun _ => true) true n 3 [k0] = some y0 := by
    have hk1 : Try.prog.cellsOf 3 = 1 := by kernel_rfl
    have h1 : DataW.trod enc Try.prog w 0 (fun _ => true) true n 3 (List.take (Try.prog.cellsOf 3) (List.drop 0 [k0, k1])) = [y0, y1][0]? := hf 0 _ rfl
    rw [hk1] at h1
    exact h1
  obtain ⟨x0, hx0⟩ := (conv_int Try.underlying3) g0 (fun p hp1 => hp p (by simp [hp1])) (fun m hm => hw m (by simp [DataW.weights, Try.underlying31, DataW.weightsEach, hm]))
  have g1 : DataW.trod enc Try.prog w 0 (fun _ => true) true n 3 [k1] = some y1 := by
    have hk1 : Try.prog.cellsOf 3 = 1 := by kernel_rfl
    have h1 : DataW.trod enc Try.prog w 0 (fun _ => true) true n 3 (List.take (Try.prog.cellsOf 3) (List.drop 1 [k0, k1])) = [y0, y1][1]? := hf 1 _ rfl
    rw [hk1] at h1
    exact h1
  obtain ⟨x1, hx1⟩ := (conv_int Try.underlying3) g1 (fun p hp1 => hp p (by simp [hp1])) (fun m hm => hw m (by simp [DataW.weights, Try.underlying31, DataW.weightsEach, hm]))
  obtain ⟨e0, q0⟩ := hx0
  obtain ⟨e1, q1⟩ := hx1
  simp only [List.cons.injEq, and_true] at e0 e1
  subst e0 e1
  exact ⟨⟨x0, x1⟩, rfl, q0, q1⟩
end Go.Proofs.Ytobmjnmcjddhcaa

namespace Go.Proofs.Ytobmjnmcjddhcaa
open Go.RowKit
set_option linter.unusedSimpArgs false
set_option linter.unusedVariables false
abbrev SlE (w : World) (B : Nat) (A : Option Addr) (n c : Nat) (xs : List (Int × Int)) : Prop := SlR 2 16 (RC cE) w B A n c xs
theorem SlE.own {w : World} {base k c : Nat} {A : Option Addr} {l : List (Int × Int)} (h : w.ownsRow base 46 2 (.slice A k c) k (l.flatMap cE)) (hk : k ≤ 100000) : SlE w w.heap.size A k c l := SlR.of_ownN (sz := 2) (bytes := 16) (f := cE) (fun _ => rfl) (by omega) h (by unfold reachBytes; omega)
theorem SlE.on {w w' : World} {A : Option Addr} {n c : Nat} {xs : List (Int × Int)} (h : SlE w w.heap.size A n c xs) (hb : Below w.heap.size w w') : SlE w' w'.heap.size A n c xs := (SlR.keep (stable_rc _) h fun p hp => hb.cell hp).more hb.size
theorem SlE.at2 {w : World} {B n c : Nat} {A : Option Addr} {xs : List (Int × Int)} (h : SlE w B A n c xs) {j : Nat} (hj : j < n) : ∃ b off e, A = some ⟨b, off, none⟩ ∧ b < B ∧ xs[j]? = some e ∧ w.cell? ⟨b, off + j * 2, none⟩ = some (.int .i64 e.1) ∧ w.cell? ⟨b, off + j * 2 + 1, none⟩ = some (.int .i64 e.2) := by
  obtain ⟨b, off, e, cs, hA, hb, he, _, hc, hr⟩ := SlR.at_ h hj
  unfold RC at hr
  subst hr
  exact ⟨b, off, e, hA, hb, he, by simpa using hc 0 _ rfl, by simpa [Nat.add_assoc] using hc 1 _ rfl⟩
/-- The logical frames of whatever place. -/
def expP (fs : List DFunc) (f pc : Int) : List (Int × Int) :=
  if 0 ≤ f ∧ f < (fs.length : Int) ∧ 0 ≤ pc ∧ pc < ((fs.getD f.toNat ⟨ByteArray.empty, false, [], [], [], [], [], [], [], [], []⟩).code.length : Int) then expM (fs.getD f.toNat ⟨ByteArray.empty, false, [], [], [], [], [], [], [], [], []⟩) f pc.toNat else []
theorem expP_out (fs : List DFunc) (f pc : Int) (h : f < 0 ∨ (fs.length : Int) ≤ f) : expP fs f pc = [] := by unfold expP; rw [if_neg (by omega)]
theorem expP_neg (fs : List DFunc) (f : Nat) (pc : Int) (x : DFunc) (hx : fs[f]? = some x) (h : pc < 0 ∨ (x.code.length : Int) ≤ pc) : expP fs (f : Int) pc = [] := by
  unfold expP
  have e : fs.getD (f : Int).toNat ⟨ByteArray.empty, false, [], [], [], [], [], [], [], [], []⟩ = x := by rw [List.getD_eq_getElem?_getD, show ((f : Int).toNat) = f from rfl, hx]; rfl
  rw [e, if_neg (by omega)]
theorem expP_in (fs : List DFunc) (f pc : Nat) (x : DFunc) (hx : fs[f]? = some x) (h : pc < x.code.length) : expP fs (f : Int) (pc : Int) = expM x (f : Int) pc := by
  unfold expP
  have hl := (List.getElem?_eq_some_iff.1 hx).1
  have e : fs.getD (f : Int).toNat ⟨ByteArray.empty, false, [], [], [], [], [], [], [], [], []⟩ = x := by rw [List.getD_eq_getElem?_getD, show ((f : Int).toNat) = f from rfl, hx]; rfl
  rw [e, if_pos (by omega)]
  rfl
theorem expM_len21 (x : DFunc) (f : Int) (pc : Nat) (h : x.nodes.length ≤ 20) : (expM x f pc).length ≤ 21 := by
  unfold expM
  split
  · simp
  · rw [entM_len]
    exact Nat.le_trans (upM_len _ _ _) (by omega)
theorem ent_nil (w : World) (e : Ending) (he : e = .returned (.slice none 0 0)) (w' : World) (hb : Below w.heap.size w w') (l : List (Int × Int)) (hl : l = []) : IsEnt l w e w' := ⟨none, 0, 0, he, by rw [hl]; rfl, by rw [hl]; exact ⟨rfl, .inl ⟨rfl, rfl⟩⟩, hb⟩
set_option maxRecDepth 100000 in
set_option maxHeartbeats 16000000 in
theorem expand_any (FA : Option Addr) (fn fc : Nat) (fs : List DFunc) (f pc : Int) (w : World) (h : PgC w FA fn fc fs) :
    Calls Try.prog 10 #[.agg #[.slice FA fn fc], .agg #[.int .i64 f, .int .i64 pc]] w (IsEnt (expP fs f pc) w) := by
  have hln := h.pg.len
  have hfn := h.pg.le
  by_cases hf : 0 ≤ f ∧ f < (fn : Int)
  · obtain ⟨hf0, hf1⟩ := hf
    obtain ⟨f, rfl⟩ := Int.eq_ofNat_of_zero_le hf0
    have hi : f < fn := by omega
    obtain ⟨bk, off, s, b, A0, n0, c0, A1, n1, c1, A2, n2, c2, A3, n3, c3, A4, n4, c4, A5, n5, c5, A6, n6, c6, A7, n7, c7, A8, n8, c8, x, rfl, hbk, hx, hcf, hfw, hcan⟩ := h.get hi
    have l4 := hfw.r4.1
    by_cases hp : 0 ≤ pc ∧ pc < (n4 : Int)
    · obtain ⟨hp0, hp1⟩ := hp
      obtain ⟨pc, rfl⟩ := Int.eq_ofNat_of_zero_le hp0
      rw [expP_in fs f pc x hx (by omega)]
      exact expand_in s b A0 n0 c0 A1 n1 c1 A2 n2 c2 A3 n3 c3 A4 n4 c4 A5 n5 c5 A6 n6 c6 A7 n7 c7 A8 n8 c8 x bk off fn fc f pc w hbk hcf hfw hcan hi hfn (by omega)
    · have HE : Hid (expP fs (f : Int) pc = []) := Lib.hid (expP_neg fs f pc x hx (by omega))
      obtain ⟨w1, hw1⟩ : ∃ X, w.alloc (.cells #[.slice (some ⟨bk, off, none⟩) fn fc] 24) = X := ⟨_, rfl⟩
      obtain ⟨g1, hg1⟩ : ∃ X, w.heap.size = X := ⟨_, rfl⟩
      have hb1 : Below w.heap.size w w1 := by rw [← hw1]; exact bl_one _
      have hc1 : Cells w1 g1 [.slice (some ⟨bk, off, none⟩) fn fc] := by rw [← hw1, ← hg1]; exact Cells.new w [.slice (some ⟨bk, off, none⟩) fn fc] _
      have hs1 : w1.heap.size = g1 + 1 := by rw [← hw1, ← hg1]; simp
      obtain ⟨w2, hw2⟩ : ∃ X, w1.alloc (.cells #[.int .i64 (f : Int), .int .i64 pc] 31) = X := ⟨_, rfl⟩
      have hb2 : Below w1.heap.size w1 w2 := by rw [← hw2]; exact bl_one _
      have hc2 : Cells w2 (g1 + 1) [.int .i64 (f : Int), .int .i64 pc] := by rw [← hw2, ← hs1]; exact Cells.new w1 [.int .i64 (f : Int), .int .i64 pc] _
      have hs2 : w2.heap.size = g1 + 1 + 1 := by rw [← hw2, ← hs1]; simp
      obtain ⟨w3, hw3⟩ : ∃ X, w2.alloc (.cells #[.string s, .bool b, .slice A0 n0 c0, .slice A1 n1 c1, .slice A2 n2 c2, .slice A3 n3 c3, .slice A4 n4 c4, .slice A5 n5 c5, .slice A6 n6 c6, .slice A7 n7 c7, .slice A8 n8 c8] 42) = X := ⟨_, rfl⟩
      have hb3 : Below w2.heap.size w2 w3 := by rw [← hw3]; exact bl_one _
      have hc3 : Cells w3 (g1 + 1 + 1) [.string s, .bool b, .slice A0 n0 c0, .slice A1 n1 c1, .slice A2 n2 c2, .slice A3 n3 c3, .slice A4 n4 c4, .slice A5 n5 c5, .slice A6 n6 c6, .slice A7 n7 c7, .slice A8 n8 c8] := by rw [← hw3, ← hs2]; exact Cells.new w2 [.string s, .bool b, .slice A0 n0 c0, .slice A1 n1 c1, .slice A2 n2 c2, .slice A3 n3 c3, .slice A4 n4 c4, .slice A5 n5 c5, .slice A6 n6 c6, .slice A7 n7 c7, .slice A8 n8 c8] _
      have hb02 : Below w.heap.size w w2 := hb1.trans (hb2.mono hb1.size)
      have HB3 : Hid (Below w.heap.size w w3) := Lib.hid (hb02.trans (hb3.mono hb02.size))
      have p0 := (hc1.on hb2).at_ 0 _ rfl
      have d0 := hc2.at_ 0 _ rfl
      have d1 := (hc2.on hb3).at_ 1 _ rfl
      have e6 := hc3.at_ 6 _ rfl
      have y0 := (hb02.cell (p := ⟨bk, off + f * 11 + 0, none⟩) hbk).trans (hcf 0 _ rfl)
      have y1 := (hb02.cell (p := ⟨bk, off + f * 11 + 1, none⟩) hbk).trans (hcf 1 _ rfl)
      have y2 := (hb02.cell (p := ⟨bk, off + f * 11 + 2, none⟩) hbk).trans (hcf 2 _ rfl)
      have y3 := (hb02.cell (p := ⟨bk, off + f * 11 + 3, none⟩) hbk).trans (hcf 3 _ rfl)
      have y4 := (hb02.cell (p := ⟨bk, off + f * 11 + 4, none⟩) hbk).trans (hcf 4 _ rfl)
      have y5 := (hb02.cell (p := ⟨bk, off + f * 11 + 5, none⟩) hbk).trans (hcf 5 _ rfl)
      have y6 := (hb02.cell (p := ⟨bk, off + f * 11 + 6, none⟩) hbk).trans (hcf 6 _ rfl)
      have y7 := (hb02.cell (p := ⟨bk, off + f * 11 + 7, none⟩) hbk).trans (hcf 7 _ rfl)
      have y8 := (hb02.cell (p := ⟨bk, off + f * 11 + 8, none⟩) hbk).trans (hcf 8 _ rfl)
      have y9 := (hb02.cell (p := ⟨bk, off + f * 11 + 9, none⟩) hbk).trans (hcf 9 _ rfl)
      have y10 := (hb02.cell (p := ⟨bk, off + f * 11 + 10, none⟩) hbk).trans (hcf 10 _ rfl)
      simp only [Nat.add_zero] at y0
      have t0 : decide ((f : Int) < 0) = false := by rw [decide_eq_false_iff_not]; omega
      have t0b : decide (f < 0) = false := by rw [decide_eq_false_iff_not]; omega
      have t1 : decide ((f : Int) ≥ (fn : Int)) = false := by rw [decide_eq_false_iff_not]; omega
      have t1b : decide (fn ≤ f) = false := by rw [decide_eq_false_iff_not]; omega
      clear hb1 hb2 hb3 hc1 hc2 hc3 hb02 hcf hfw hcan hx h l4 hln
      go_enter Try.func10, Try.ntmps10
      by_cases hp0 : pc < 0
      · have t2 : decide (pc < 0) = true := by rw [decide_eq_true_eq]; exact hp0
        clear hp hp0
        go_wp2_with fail
        go_ret
        exact ent_nil _ _ rfl _ HB3.out _ HE.out
      · have t2 : decide (pc < 0) = false := by rw [decide_eq_false_iff_not]; exact hp0
        obtain ⟨pc, rfl⟩ := Int.eq_ofNat_of_zero_le (show 0 ≤ pc by omega)
        have t2b : decide (pc < 0) = false := by rw [decide_eq_false_iff_not]; omega
        have t3 : decide ((pc : Int) ≥ (n4 : Int)) = true := by rw [decide_eq_true_eq]; omega
        have t3b : decide (n4 ≤ pc) = true := by rw [decide_eq_true_eq]; omega
        clear hp hp0
        go_wp2_with fail
        go_ret
        exact ent_nil _ _ rfl _ HB3.out _ HE.out
  · have HE : Hid (expP fs f pc = []) := Lib.hid (expP_out fs f pc (by omega))
    obtain ⟨w1, hw1⟩ : ∃ X, w.alloc (.cells #[.slice FA fn fc] 24) = X := ⟨_, rfl⟩
    obtain ⟨g1, hg1⟩ : ∃ X, w.heap.size = X := ⟨_, rfl⟩
    have hb1 : Below w.heap.size w w1 := by rw [← hw1]; exact bl_one _
    have hc1 : Cells w1 g1 [.slice FA fn fc] := by rw [← hw1, ← hg1]; exact Cells.new w [.slice FA fn fc] _
    have hs1 : w1.heap.size = g1 + 1 := by rw [← hw1, ← hg1]; simp
    obtain ⟨w2, hw2⟩ : ∃ X, w1.alloc (.cells #[.int .i64 f, .int .i64 pc] 31) = X := ⟨_, rfl⟩
    have hb2 : Below w1.heap.size w1 w2 := by rw [← hw2]; exact bl_one _
    have hc2 : Cells w2 (g1 + 1) [.int .i64 f, .int .i64 pc] := by rw [← hw2, ← hs1]; exact Cells.new w1 [.int .i64 f, .int .i64 pc] _
    have HB2 : Hid (Below w.heap.size w w2) := Lib.hid (hb1.trans (hb2.mono hb1.size))
    have p0 := (hc1.on hb2).at_ 0 _ rfl
    have d0 := hc2.at_ 0 _ rfl
    clear hb1 hb2 hc1 hc2 h hln
    go_enter Try.func10, Try.ntmps10
    by_cases hf0 : f < 0
    · have t2 : decide (f < 0) = true := by rw [decide_eq_true_eq]; exact hf0
      clear hf hf0
      go_wp2_with fail
      go_ret
      exact ent_nil _ _ rfl _ HB2.out _ HE.out
    · have t2 : decide (f < 0) = false := by rw [decide_eq_false_iff_not]; exact hf0
      obtain ⟨f, rfl⟩ := Int.eq_ofNat_of_zero_le (show 0 ≤ f by omega)
      have t2b : decide (f < 0) = false := by rw [decide_eq_false_iff_not]; omega
      have t3 : decide ((f : Int) ≥ (fn : Int)) = true := by rw [decide_eq_true_eq]; omega
      have t3b : decide (fn ≤ f) = true := by rw [decide_eq_true_eq]; omega
      clear hf hf0
      go_wp2_with fail
      go_ret
      exact ent_nil _ _ rfl _ HB2.out _ HE.out
set_option maxRecDepth 100000 in
set_option maxHeartbeats 16000000 in
theorem depth_any (FA : Option Addr) (fn fc : Nat) (fs : List DFunc) (f pc : Int) (w : World) (h : PgC w FA fn fc fs) :
    Calls Try.prog 11 #[.agg #[.slice FA fn fc], .agg #[.int .i64 f, .int .i64 pc]] w fun e w' => e = .returned (.int .i64 ((expP fs f pc).length : Int)) ∧ Below w.heap.size w w' := by
  obtain ⟨w1, hw1⟩ : ∃ X, w.alloc (.cells #[.slice FA fn fc] 24) = X := ⟨_, rfl⟩
  obtain ⟨g1, hg1⟩ : ∃ X, w.heap.size = X := ⟨_, rfl⟩
  have hb1 : Below w.heap.size w w1 := by rw [← hw1]; exact bl_one _
  have hc1 : Cells w1 g1 [.slice FA fn fc] := by rw [← hw1, ← hg1]; exact Cells.new w [.slice FA fn fc] _
  have hs1 : w1.heap.size = g1 + 1 := by rw [← hw1, ← hg1]; simp
  obtain ⟨w2, hw2⟩ : ∃ X, w1.alloc (.cells #[.int .i64 f, .int .i64 pc] 31) = X := ⟨_, rfl⟩
  have hb2 : Below w1.heap.size w1 w2 := by rw [← hw2]; exact bl_one _
  have hc2 : Cells w2 (g1 + 1) [.int .i64 f, .int .i64 pc] := by rw [← hw2, ← hs1]; exact Cells.new w1 [.int .i64 f, .int .i64 pc] _
  have hb02 : Below w.heap.size w w2 := hb1.trans (hb2.mono hb1.size)
  have HB2 := Lib.hid hb02
  have p0 := (hc1.on hb2).at_ 0 _ rfl
  have d0 := hc2.at_ 0 _ rfl
  have d1 := hc2.at_ 1 _ rfl
  have cE := Lib.hid (expand_any FA fn fc fs f pc w2 (h.on hb02))
  clear hb1 hb2 hc1 hc2 h hb02
  go_enter Try.func11, Try.ntmps11
  go_wp2_with fail
  refine cE.out.mono ?_
  rintro e w3 ⟨A, k, c, rfl, hk, hown, hb3⟩
  have HB3 : Hid (Below w.heap.size w w3) := Lib.hid (HB2.out.trans (hb3.mono HB2.out.size))
  have HK := Lib.hid hk
  clear hown hb3 cE hk
  go_wp2_with fail
  go_ret
  refine ⟨?_, HB3.out⟩
  rw [← HK.out]
  rfl
set_option maxRecDepth 100000 in
set_option maxHeartbeats 16000000 in
theorem rentries_same (A B : Option Addr) (n c d : Nat) (xs : List (Int × Int)) (w : World) (h1 : SlE w w.heap.size A n c xs) (h2 : SlE w w.heap.size B n d xs) (hn : n ≤ 100000) :
    Calls Try.prog 9 #[.slice A n c, .slice B n d] w fun e w' => e = .returned (.bool true) ∧ Below w.heap.size w w' := by
  have H1 := Lib.hid h1
  have H2 := Lib.hid h2
  have hn0 : (n : Int) ≤ 100000 := by omega
  clear h1 h2
  go_enter Try.func9, Try.ntmps9
  go_wp2_with fail
  go_loopw [5] (fun iv wr => ∃ (j : Nat), iv = .int .i64 (j : Int) ∧ j ≤ n ∧ Hid (Below w.heap.size w wr)) (fun iv _ => n - (intOf iv).toNat)
  case atStart => exact ⟨0, rfl, Nat.zero_le _, Lib.hid (Below.refl _ _)⟩
  case round =>
    obtain ⟨j, rfl, hj, HB⟩ := hrel
    have hj0 : (0 : Int) ≤ (j : Int) := by omega
    have hj1 : (j : Int) ≤ 100000 := by omega
    by_cases hlt : j < n
    · have hjn : (j : Int) < (n : Int) := by omega
      obtain ⟨b1, o1, e1, rfl, hb1, he1, c0, c1⟩ := (H1.out.on HB.out).at2 hlt
      obtain ⟨b2, o2, e2, rfl, hb2, he2, k0, k1⟩ := (H2.out.on HB.out).at2 hlt
      rw [he1] at he2
      injection he2 with he2
      subst he2
      obtain ⟨u, v⟩ := e1
      clear he1
      go_wp2_with fail
      go_quiet (fail)
      go_wp2_with fail
      go_roundw
      case rel => exact ⟨j + 1, by go_num, by omega, Lib.hid (HB.out.trans (below_drewN' (Below.refl _ _) _ |>.mono HB.out.size))⟩
      case measure => first | (simp [intOf]; done) | (simp [intOf]; omega)
    · obtain rfl : j = n := by omega
      go_wp2_with fail
      go_ret
      exact ⟨rfl, HB.out⟩
end Go.Proofs.Ytobmjnmcjddhcaa

namespace Go.Proofs.Ytobmjnmcjddhcaa
open Go.RowKit
set_option linter.unusedSimpArgs false
set_option linter.unusedVariables false
theorem own_ent1 (W : World) (base : Nat) (hb : base ≤ W.heap.size) (u v : Int) : (W.alloc (.cells #[.int .i64 u, .int .i64 v] 46)).ownsRow base 46 2 (.slice (some ⟨W.heap.size, 0, none⟩) 1 1) 1 [.int .i64 u, .int .i64 v] :=
  ⟨rfl, .inr ⟨W.heap.size, 1, #[.int .i64 u, .int .i64 v], rfl, hb, World.alloc_heap_new W _, by omega, by unfold maxLen; omega, rfl, rfl⟩⟩
theorem app_ent {w wa w3 : World} {base k m c : Nat} {A : Option Addr} {l news : List (Int × Int)} {v' : Value} (hb : Below base w wa) (hba : base ≤ wa.heap.size) (hown : wa.ownsRow base 46 2 (.slice A k c) k (l.flatMap cE))
    (hown' : w3.ownsRow base 46 2 v' (k + m) (l.flatMap cE ++ news.flatMap cE)) (hgrow : wa.grownBy w3 (Value.slice A k c).ownBlock) :
    ∃ A' c', v' = .slice A' (k + m) c' ∧ w3.ownsRow base 46 2 (.slice A' (k + m) c') (k + m) ((l ++ news).flatMap cE) ∧ Below base w w3 := by
  obtain ⟨A', c', rfl, _⟩ := own_form hown'
  exact ⟨A', c', rfl, by rw [List.flatMap_append]; exact hown', Below.grown hb hgrow hba fun j hj => (hown.lt j hj).1⟩
theorem sle_one {W : World} {b : Nat} {u v : Int} (h : Cells W b [.int .i64 u, .int .i64 v]) : SlE W W.heap.size (some ⟨b, 0, none⟩) 1 1 [(u, v)] :=
  slr_of_cells (f := cE) (xs := [(u, v)]) (fun _ => rfl) h rfl h.lt (by unfold maxLen; omega) (by unfold reachBytes; omega)
theorem sle_src {w : World} {B n c : Nat} {A : Option Addr} {xs : List (Int × Int)} (h : SlE w B A n c xs) : SrcCells w A n 2 (xs.flatMap cE) := SlR.src (f := cE) (fun _ => rfl) h
theorem ent_cells (xs : List (Int × Int)) : ∀ u ∈ xs.flatMap cE, u.oneCell' = true := by
  intro u hu
  obtain ⟨e, _, he⟩ := List.mem_flatMap.1 hu
  exact two_cells e u he
theorem rline_any (A : Option Addr) (n c : Nat) (xs : List Int) (k : Nat) (w : World) (h : SlI w w.heap.size A n c xs) (hk : k < n) (hn : n ≤ 1000) :
    Calls Try.prog 18 #[.slice A n c, .int .i64 (k : Int)] w fun e w' => e = .returned (.int .i64 (xs.getD k 0)) ∧ w = w' := by
  obtain ⟨b, off, v, rfl, hb, hv, hc⟩ := SlR.cell1 (f := Value.int .i64) h (i := k) hk
  have HV : Hid (xs.getD k 0 = v) := Lib.hid (by rw [List.getD_eq_getElem?_getD, hv]; rfl)
  rw [HV.out]
  have hk0 : (0 : Int) ≤ (k : Int) := by omega
  have hkn : (k : Int) < (n : Int) := by omega
  have t0 : decide ((k : Int) < 0) = false := by rw [decide_eq_false_iff_not]; omega
  have t0b : decide (k < 0) = false := by rw [decide_eq_false_iff_not]; omega
  have t1 : decide ((k : Int) ≥ (n : Int)) = false := by rw [decide_eq_false_iff_not]; omega
  have t1b : decide (n ≤ k) = false := by rw [decide_eq_false_iff_not]; omega
  clear h hv
  go_enter Try.func18, Try.ntmps18
  go_wp2_with fail
  go_ret
  exact ⟨rfl, rfl⟩
set_option maxRecDepth 100000 in
set_option maxHeartbeats 64000000 in
theorem lexp_any (FA : Option Addr) (fn fc : Nat) (fs : List DFunc) (f pc : Int) (w : World) (h : PgC w FA fn fc fs) :
    Calls Try.prog 8 #[.agg #[.slice FA fn fc], .agg #[.int .i64 f, .int .i64 pc]] w (IsEnt (expP fs f pc) w) := by
  obtain ⟨i0, hi0, hz0, hz1, hz2⟩ := info_parts info_entry
  have hln := h.pg.len
  have hfn := h.pg.le
  by_cases hf : 0 ≤ f ∧ f < (fn : Int)
  · obtain ⟨hf0, hf1⟩ := hf
    obtain ⟨f, rfl⟩ := Int.eq_ofNat_of_zero_le hf0
    have hi : f < fn := by omega
    obtain ⟨bk, off, s, b, A0, n0, c0, A1, n1, c1, A2, n2, c2, A3, n3, c3, A4, n4, c4, A5, n5, c5, A6, n6, c6, A7, n7, c7, A8, n8, c8, x, rfl, hbk, hx, hcf, hfw, hcan⟩ := h.get hi
    have l4 := hfw.r4.1
    have HXL := Lib.hid hx
    obtain ⟨w1, hw1⟩ : ∃ X, w.alloc (.cells #[.slice (some ⟨bk, off, none⟩) fn fc] 24) = X := ⟨_, rfl⟩
    obtain ⟨g1, hg1⟩ : ∃ X, w.heap.size = X := ⟨_, rfl⟩
    have hb1 : Below w.heap.size w w1 := by rw [← hw1]; exact bl_one _
    have hc1 : Cells w1 g1 [.slice (some ⟨bk, off, none⟩) fn fc] := by rw [← hw1, ← hg1]; exact Cells.new w [.slice (some ⟨bk, off, none⟩) fn fc] _
    have hs1 : w1.heap.size = g1 + 1 := by rw [← hw1, ← hg1]; simp
    obtain ⟨w2, hw2⟩ : ∃ X, w1.alloc (.cells #[.int .i64 (f : Int), .int .i64 pc] 31) = X := ⟨_, rfl⟩
    have hb2 : Below w1.heap.size w1 w2 := by rw [← hw2]; exact bl_one _
    have hc2 : Cells w2 (g1 + 1) [.int .i64 (f : Int), .int .i64 pc] := by rw [← hw2, ← hs1]; exact Cells.new w1 [.int .i64 (f : Int), .int .i64 pc] _
    have hb02 : Below w.heap.size w w2 := hb1.trans (hb2.mono hb1.size)
    have HB2 := Lib.hid hb02
    have p0 := (hc1.on hb2).at_ 0 _ rfl
    have d0 := hc2.at_ 0 _ rfl
    have d1 := hc2.at_ 1 _ rfl
    have y0 := (hb02.cell (p := ⟨bk, off + f * 11 + 0, none⟩) hbk).trans (hcf 0 _ rfl)
    have y1 := (hb02.cell (p := ⟨bk, off + f * 11 + 1, none⟩) hbk).trans (hcf 1 _ rfl)
    have y2 := (hb02.cell (p := ⟨bk, off + f * 11 + 2, none⟩) hbk).trans (hcf 2 _ rfl)
    have y3 := (hb02.cell (p := ⟨bk, off + f * 11 + 3, none⟩) hbk).trans (hcf 3 _ rfl)
    have y4 := (hb02.cell (p := ⟨bk, off + f * 11 + 4, none⟩) hbk).trans (hcf 4 _ rfl)
    have y5 := (hb02.cell (p := ⟨bk, off + f * 11 + 5, none⟩) hbk).trans (hcf 5 _ rfl)
    have y6 := (hb02.cell (p := ⟨bk, off + f * 11 + 6, none⟩) hbk).trans (hcf 6 _ rfl)
    have y7 := (hb02.cell (p := ⟨bk, off + f * 11 + 7, none⟩) hbk).trans (hcf 7 _ rfl)
    have y8 := (hb02.cell (p := ⟨bk, off + f * 11 + 8, none⟩) hbk).trans (hcf 8 _ rfl)
    have y9 := (hb02.cell (p := ⟨bk, off + f * 11 + 9, none⟩) hbk).trans (hcf 9 _ rfl)
    have y10 := (hb02.cell (p := ⟨bk, off + f * 11 + 10, none⟩) hbk).trans (hcf 10 _ rfl)
    simp only [Nat.add_zero] at y0
    have t0 : decide ((f : Int) < 0) = false := by rw [decide_eq_false_iff_not]; omega
    have t0b : decide (f < 0) = false := by rw [decide_eq_false_iff_not]; omega
    have t1 : decide ((f : Int) ≥ (fn : Int)) = false := by rw [decide_eq_false_iff_not]; omega
    have t1b : decide (fn ≤ f) = false := by rw [decide_eq_false_iff_not]; omega
    obtain ⟨s4, s5, s6, s7, s8, s0⟩ := hfw.sm
    have HFW := Lib.hid hfw
    have HCAN := Lib.hid hcan
    have HC1 := Lib.hid (hc1.on hb2)
    have HC2 := Lib.hid hc2
    have HYY : Hid (∀ W, Below w2.heap.size w2 W → W.cell? ⟨bk, off + f * 11, none⟩ = some (.string s) ∧ W.cell? ⟨bk, off + f * 11 + 1, none⟩ = some (.bool b) ∧ W.cell? ⟨bk, off + f * 11 + 2, none⟩ = some (.slice A0 n0 c0) ∧ W.cell? ⟨bk, off + f * 11 + 3, none⟩ = some (.slice A1 n1 c1) ∧ W.cell? ⟨bk, off + f * 11 + 4, none⟩ = some (.slice A2 n2 c2) ∧ W.cell? ⟨bk, off + f * 11 + 5, none⟩ = some (.slice A3 n3 c3) ∧ W.cell? ⟨bk, off + f * 11 + 6, none⟩ = some (.slice A4 n4 c4) ∧ W.cell? ⟨bk, off + f * 11 + 7, none⟩ = some (.slice A5 n5 c5) ∧ W.cell? ⟨bk, off + f * 11 + 8, none⟩ = some (.slice A6 n6 c6) ∧ W.cell? ⟨bk, off + f * 11 + 9, none⟩ = some (.slice A7 n7 c7) ∧ W.cell? ⟨bk, off + f * 11 + 10, none⟩ = some (.slice A8 n8 c8)) := Lib.hid fun W hW => ⟨(hW.cell (p := ⟨bk, off + f * 11, none⟩) (World.block_lt_of_cell? _ _ y0)).trans y0, (hW.cell (p := ⟨bk, off + f * 11 + 1, none⟩) (World.block_lt_of_cell? _ _ y1)).trans y1, (hW.cell (p := ⟨bk, off + f * 11 + 2, none⟩) (World.block_lt_of_cell? _ _ y2)).trans y2, (hW.cell (p := ⟨bk, off + f * 11 + 3, none⟩) (World.block_lt_of_cell? _ _ y3)).trans y3, (hW.cell (p := ⟨bk, off + f * 11 + 4, none⟩) (World.block_lt_of_cell? _ _ y4)).trans y4, (hW.cell (p := ⟨bk, off + f * 11 + 5, none⟩) (World.block_lt_of_cell? _ _ y5)).trans y5, (hW.cell (p := ⟨bk, off + f * 11 + 6, none⟩) (World.block_lt_of_cell? _ _ y6)).trans y6, (hW.cell (p := ⟨bk, off + f * 11 + 7, none⟩) (World.block_lt_of_cell? _ _ y7)).trans y7, (hW.cell (p := ⟨bk, off + f * 11 + 8, none⟩) (World.block_lt_of_cell? _ _ y8)).trans y8, (hW.cell (p := ⟨bk, off + f * 11 + 9, none⟩) (World.block_lt_of_cell? _ _ y9)).trans y9, (hW.cell (p := ⟨bk, off + f * 11 + 10, none⟩) (World.block_lt_of_cell? _ _ y10)).trans y10⟩
    have HL4 : Hid (x.code.length = n4 ∧ x.nodes.length = n6 ∧ x.lines.length = n5 ∧ n5 = n4) := Lib.hid ⟨l4, hfw.r6.1, hfw.r5.1, by have := hcan.lines; have := hfw.r5.1; omega⟩
    have HBF : Hid (bareF x = decide (n6 + n7 + n8 = 0)) := Lib.hid (by unfold bareF; rw [hfw.r6.1, hfw.r7.1, hfw.r8.1])
    clear hb1 hb2 hc1 hc2 hb02 hcf hfw hcan hx h l4 hln
    go_enter Try.func8, Try.ntmps8
    by_cases hp : 0 ≤ pc ∧ pc < (n4 : Int)
    · obtain ⟨hp0, hp1⟩ := hp
      obtain ⟨pc, rfl⟩ := Int.eq_ofNat_of_zero_le hp0
      have t2 : decide ((pc : Int) < 0) = false := by rw [decide_eq_false_iff_not]; omega
      have t2b : decide (pc < 0) = false := by rw [decide_eq_false_iff_not]; omega
      have t3 : decide ((pc : Int) ≥ (n4 : Int)) = false := by rw [decide_eq_false_iff_not]; omega
      have t3b : decide (n4 ≤ pc) = false := by rw [decide_eq_false_iff_not]; omega
      have hpc : pc < n4 := by omega
      have HEX : Hid (expP fs (f : Int) (pc : Int) = expM x (f : Int) pc) := Lib.hid (expP_in fs f pc x HXL.out (by have := HL4.out.1; omega))
      rw [HEX.out]
      go_wp2_with fail
      go_quiet (fail)
      go_simp
      obtain ⟨w3, hw3⟩ : ∃ X, World.drewN w2 nq = X := ⟨_, rfl⟩
      rw [hw3]
      have hb3 : Below w2.heap.size w2 w3 := by rw [← hw3]; exact below_drewN' (Below.refl _ _) _
      clear y0 y1 y2 y3 y4 y5 y6 y7 y8 y9 y10 p0 d0 d1 t0 t0b t1 t1b t2 t2b t3 t3b hw3
      obtain ⟨y0, y1, y2, y3, y4, y5, y6, y7, y8, y9, y10⟩ := HYY.out w3 hb3
      have p0 := (HC1.out.on hb3).at_ 0 _ rfl
      have d0 := (HC2.out.on hb3).at_ 0 _ rfl
      have hc23 := HC2.out.on hb3
      have HB3 := Lib.hid hb3
      go_upto_region 4 with fail
      clear y0 y1 y2 y3 y4 y5 y6 y7 y8 y9 y10 p0 d0
      obtain ⟨w4, hwX⟩ : ∃ X, World.alloc w3 (.cells #[.string s, .bool b, .slice A0 n0 c0, .slice A1 n1 c1, .slice A2 n2 c2, .slice A3 n3 c3, .slice A4 n4 c4, .slice A5 n5 c5, .slice A6 n6 c6, .slice A7 n7 c7, .slice A8 n8 c8] 42) = X := ⟨_, rfl⟩
      obtain ⟨g4, hgX⟩ : ∃ X, (World.heap w3).size = X := ⟨_, rfl⟩
      have hb4 : Below (World.heap w3).size w3 w4 := by rw [← hwX]; exact bl_one _
      have hc4 : Cells w4 g4 [.string s, .bool b, .slice A0 n0 c0, .slice A1 n1 c1, .slice A2 n2 c2, .slice A3 n3 c3, .slice A4 n4 c4, .slice A5 n5 c5, .slice A6 n6 c6, .slice A7 n7 c7, .slice A8 n8 c8] := by rw [← hwX, ← hgX]; exact Cells.new w3 [.string s, .bool b, .slice A0 n0 c0, .slice A1 n1 c1, .slice A2 n2 c2, .slice A3 n3 c3, .slice A4 n4 c4, .slice A5 n5 c5, .slice A6 n6 c6, .slice A7 n7 c7, .slice A8 n8 c8] _
      rw [hwX, hgX]
      clear hwX hgX
      have HB4 : Hid (Below w2.heap.size w2 w4) := Lib.hid (HB3.out.trans (hb4.mono HB3.out.size))
      have HCT : Hid (∀ W, Below w4.heap.size w4 W → Cells W g4 [.string s, .bool b, .slice A0 n0 c0, .slice A1 n1 c1, .slice A2 n2 c2, .slice A3 n3 c3, .slice A4 n4 c4, .slice A5 n5 c5, .slice A6 n6 c6, .slice A7 n7 c7, .slice A8 n8 c8]) := Lib.hid fun W hW => hc4.on hW
      have HPL : Hid (∀ W, Below w4.heap.size w4 W → Cells W (g1 + 1) [.int .i64 (f : Int), .int .i64 (pc : Int)]) := Lib.hid fun W hW => (hc23.on hb4).on hW
      have HB04 : Hid (∀ W, Below w4.heap.size w4 W → Below w.heap.size w W) := Lib.hid fun W hW => HB2.out.trans ((HB4.out.trans (hW.mono HB4.out.size)).mono HB2.out.size)
      have HF4 : Hid (∀ W, Below w4.heap.size w4 W → FnW W W.heap.size s b A0 n0 c0 A1 n1 c1 A2 n2 c2 A3 n3 c3 A4 n4 c4 A5 n5 c5 A6 n6 c6 A7 n7 c7 A8 n8 c8 x) := Lib.hid fun W hW => (HFW.out.keep (HB04.out W hW)).more (HB04.out W hW).size
      obtain ⟨li, hli⟩ : ∃ v, x.lines.getD pc 0 = v := ⟨_, rfl⟩
      have HLI := Lib.hid hli
      have cAt := Lib.hid (rline_any A5 n5 c5 x.lines pc w4 (HF4.out w4 (Below.refl _ _)).r5 (by have := HL4.out; omega) (by omega))
      rw [hli] at cAt
      obtain ⟨bq, hbq⟩ : ∃ b, decide (n6 + n7 + n8 = 0) = b := ⟨_, rfl⟩
      have cB := Lib.hid (rbare_any s b A0 n0 c0 A1 n1 c1 A2 n2 c2 A3 n3 c3 A4 n4 c4 A5 n5 c5 A6 n6 c6 A7 n7 c7 A8 n8 c8 w4 (by omega) (by omega) (by omega) bq hbq.symm)
      rw [hbq] at HBF
      have d1 := (HPL.out w4 (Below.refl _ _)).at_ 1 _ rfl
      have e0 := hc4.at_ 0 _ rfl
      have e1 := hc4.at_ 1 _ rfl
      have e2 := hc4.at_ 2 _ rfl
      have e3 := hc4.at_ 3 _ rfl
      have e4 := hc4.at_ 4 _ rfl
      have e5 := hc4.at_ 5 _ rfl
      have e6 := hc4.at_ 6 _ rfl
      have e7 := hc4.at_ 7 _ rfl
      have e8 := hc4.at_ 8 _ rfl
      have e9 := hc4.at_ 9 _ rfl
      have e10 := hc4.at_ 10 _ rfl
      clear hb3 hb4 hc4 hc23 hli hbq
      go_wp2_with fail
      refine cAt.out.mono ?_
      rintro e w4' ⟨rfl, rfl⟩
      go_wp2_with fail
      refine cB.out.mono ?_
      rintro e w5 ⟨rfl, hb5⟩
      have HB5 := Lib.hid hb5
      clear hb5 cB cAt d1 e0 e1 e2 e3 e4 e5 e6 e7 e8 e9 e10
      cases bq with
      | true =>
        have HE1 : Hid (expM x (f : Int) pc = [((f : Int), li)]) := Lib.hid (by
          have := HBF.out
          unfold bareF at this
          rw [decide_eq_true_eq] at this
          unfold expM
          rw [if_pos (by omega), HLI.out])
        have d0 := (HPL.out w5 HB5.out).at_ 0 _ rfl
        have HROW := Lib.hid (own_ent1 w5 w.heap.size (HB04.out w5 HB5.out).size (f : Int) li)
        go_wp2_with fail
        go_ret
        exact ⟨_, 1, 1, rfl, by rw [HE1.out]; rfl, by rw [HE1.out]; exact HROW.out, HB04.out w5 HB5.out |>.alloc (HB04.out w5 HB5.out).size _⟩
      | false =>
        go_wp2_with fail
        obtain ⟨nd, hnd⟩ : ∃ v, ndM x pc = v := ⟨_, rfl⟩
        obtain ⟨up, hup⟩ : ∃ l, upM x.nodes (n6 + 1) nd = l := ⟨_, rfl⟩
        have HUI : Hid (up.length ≤ 21 ∧ ∀ u ∈ up, 0 ≤ u ∧ u < (n6 : Int)) := Lib.hid (by rw [← hup]; exact ⟨Nat.le_trans (upM_len _ _ _) (by omega), fun u hu => by have := upM_in _ _ _ u hu; rwa [HL4.out.2.1] at this⟩)
        have HEM : Hid (expM x (f : Int) pc = entM x.nodes li up) := Lib.hid (by
          have hbf := HBF.out
          rcases HCAN.out.tab with ⟨a1, a2, a3⟩ | ⟨hno, hat, hlv, hin⟩
          · unfold bareF at hbf
            rw [a1, a2, a3] at hbf
            cases hbf
          · have h1 := hno.1
            have hn : ndM x pc = x.at_.getD pc 0 := by unfold ndM; rw [if_neg (by omega)]
            obtain ⟨u, hu⟩ : ∃ u, x.at_[pc]? = some u := ⟨_, List.getElem?_eq_getElem (by have := HL4.out.1; omega)⟩
            have hu' : ndM x pc = u := by rw [hn, List.getD_eq_getElem?_getD, hu]; rfl
            obtain ⟨u0, u1⟩ := hin u (List.mem_of_getElem? hu)
            obtain ⟨q, rfl⟩ := Int.eq_ofNat_of_zero_le u0
            unfold expM
            rw [if_neg (by omega), HLI.out, ← hup, ← hnd, hu', ← HL4.out.2.1, upM_same x.nodes hno q (by omega)])
        have cN : Hid (∀ W, Below w5.heap.size w5 W → Calls Try.prog 14 #[.agg #[.string s, .bool b, .slice A0 n0 c0, .slice A1 n1 c1, .slice A2 n2 c2, .slice A3 n3 c3, .slice A4 n4 c4, .slice A5 n5 c5, .slice A6 n6 c6, .slice A7 n7 c7, .slice A8 n8 c8], .int .i64 (pc : Int)] W fun e w' => e = .returned (.int .i64 nd) ∧ Below W.heap.size W w') := Lib.hid fun W hW => by rw [← hnd]; exact rnode_any s b A0 n0 c0 A1 n1 c1 A2 n2 c2 A3 n3 c3 A4 n4 c4 A5 n5 c5 A6 n6 c6 A7 n7 c7 A8 n8 c8 x pc W (HF4.out W (HB5.out.trans (hW.mono HB5.out.size))) (by omega)
        have cU : Hid (∀ W, Below w5.heap.size w5 W → Calls Try.prog 13 #[.slice A6 n6 c6, .int .i64 nd] W (IsRow up W)) := Lib.hid fun W hW => by rw [← hup]; exact rup_any A6 n6 c6 x.nodes nd W (HF4.out W (HB5.out.trans (hW.mono HB5.out.size))).r6 (by omega)
        clear hup hnd
        refine wp_region_held (S := fun W => Below w5.heap.size w5 W) (by kernel_rfl) ?_
        change wpAnyH _ _ _ _ _ _ _ _ (World.drew _)
        have hS0 : Below w5.heap.size w5 w5.drew := (Below.refl _ _).drew
        refine wpAnyH_tk (i := 0) rfl (by kernel_rfl) (by kernel_rfl) (by kernel_rfl) (by rfl) (by intro W hW; go_simp; first | done | exact rfl) (by intro _ _ _ h; exact h) hS0 ?_
        try go_simp
        refine wpAnyH_tk (i := 1) rfl (by kernel_rfl) (by kernel_rfl) (by kernel_rfl) (by rfl) (by intro W hW; have x9 := HCT.out W (HB5.out.trans (hW.mono HB5.out.size)); obtain ⟨e0, e1, e2, e3, e4, e5, e6, e7, e8, e9, e10⟩ : W.cell? ⟨g4, 0, none⟩ = some (.string s) ∧ W.cell? ⟨g4, 1, none⟩ = some (.bool b) ∧ W.cell? ⟨g4, 2, none⟩ = some (.slice A0 n0 c0) ∧ W.cell? ⟨g4, 3, none⟩ = some (.slice A1 n1 c1) ∧ W.cell? ⟨g4, 4, none⟩ = some (.slice A2 n2 c2) ∧ W.cell? ⟨g4, 5, none⟩ = some (.slice A3 n3 c3) ∧ W.cell? ⟨g4, 6, none⟩ = some (.slice A4 n4 c4) ∧ W.cell? ⟨g4, 7, none⟩ = some (.slice A5 n5 c5) ∧ W.cell? ⟨g4, 8, none⟩ = some (.slice A6 n6 c6) ∧ W.cell? ⟨g4, 9, none⟩ = some (.slice A7 n7 c7) ∧ W.cell? ⟨g4, 10, none⟩ = some (.slice A8 n8 c8) := ⟨x9.at_ 0 _ rfl, x9.at_ 1 _ rfl, x9.at_ 2 _ rfl, x9.at_ 3 _ rfl, x9.at_ 4 _ rfl, x9.at_ 5 _ rfl, x9.at_ 6 _ rfl, x9.at_ 7 _ rfl, x9.at_ 8 _ rfl, x9.at_ 9 _ rfl, x9.at_ 10 _ rfl⟩; have y1 := (HPL.out W (HB5.out.trans (hW.mono HB5.out.size))).at_ 1 _ rfl; go_simp; first | done | exact rfl) (by intro _ _ _ h; exact h) hS0 ?_
        try go_simp
        refine wpAnyH_tk (i := 2) rfl (by kernel_rfl) (by kernel_rfl) (by kernel_rfl) (by rfl) (by intro W hW; have x9 := HCT.out W (HB5.out.trans (hW.mono HB5.out.size)); obtain ⟨e0, e1, e2, e3, e4, e5, e6, e7, e8, e9, e10⟩ : W.cell? ⟨g4, 0, none⟩ = some (.string s) ∧ W.cell? ⟨g4, 1, none⟩ = some (.bool b) ∧ W.cell? ⟨g4, 2, none⟩ = some (.slice A0 n0 c0) ∧ W.cell? ⟨g4, 3, none⟩ = some (.slice A1 n1 c1) ∧ W.cell? ⟨g4, 4, none⟩ = some (.slice A2 n2 c2) ∧ W.cell? ⟨g4, 5, none⟩ = some (.slice A3 n3 c3) ∧ W.cell? ⟨g4, 6, none⟩ = some (.slice A4 n4 c4) ∧ W.cell? ⟨g4, 7, none⟩ = some (.slice A5 n5 c5) ∧ W.cell? ⟨g4, 8, none⟩ = some (.slice A6 n6 c6) ∧ W.cell? ⟨g4, 9, none⟩ = some (.slice A7 n7 c7) ∧ W.cell? ⟨g4, 10, none⟩ = some (.slice A8 n8 c8) := ⟨x9.at_ 0 _ rfl, x9.at_ 1 _ rfl, x9.at_ 2 _ rfl, x9.at_ 3 _ rfl, x9.at_ 4 _ rfl, x9.at_ 5 _ rfl, x9.at_ 6 _ rfl, x9.at_ 7 _ rfl, x9.at_ 8 _ rfl, x9.at_ 9 _ rfl, x9.at_ 10 _ rfl⟩; have y1 := (HPL.out W (HB5.out.trans (hW.mono HB5.out.size))).at_ 1 _ rfl; go_simp; first | done | exact rfl) (by intro _ _ _ h; exact h) hS0 ?_
        try go_simp
        refine wpAnyH_tk (i := 3) rfl (by kernel_rfl) (by kernel_rfl) (by kernel_rfl) (by rfl) (by intro W hW; go_simp; first | done | exact rfl) (by intro _ _ _ h; exact h) hS0 ?_
        try go_simp
        refine wpAnyH_tk (i := 4) rfl (by kernel_rfl) (by kernel_rfl) (by kernel_rfl) (by rfl) (by intro W hW; have x9 := HCT.out W (HB5.out.trans (hW.mono HB5.out.size)); obtain ⟨e0, e1, e2, e3, e4, e5, e6, e7, e8, e9, e10⟩ : W.cell? ⟨g4, 0, none⟩ = some (.string s) ∧ W.cell? ⟨g4, 1, none⟩ = some (.bool b) ∧ W.cell? ⟨g4, 2, none⟩ = some (.slice A0 n0 c0) ∧ W.cell? ⟨g4, 3, none⟩ = some (.slice A1 n1 c1) ∧ W.cell? ⟨g4, 4, none⟩ = some (.slice A2 n2 c2) ∧ W.cell? ⟨g4, 5, none⟩ = some (.slice A3 n3 c3) ∧ W.cell? ⟨g4, 6, none⟩ = some (.slice A4 n4 c4) ∧ W.cell? ⟨g4, 7, none⟩ = some (.slice A5 n5 c5) ∧ W.cell? ⟨g4, 8, none⟩ = some (.slice A6 n6 c6) ∧ W.cell? ⟨g4, 9, none⟩ = some (.slice A7 n7 c7) ∧ W.cell? ⟨g4, 10, none⟩ = some (.slice A8 n8 c8) := ⟨x9.at_ 0 _ rfl, x9.at_ 1 _ rfl, x9.at_ 2 _ rfl, x9.at_ 3 _ rfl, x9.at_ 4 _ rfl, x9.at_ 5 _ rfl, x9.at_ 6 _ rfl, x9.at_ 7 _ rfl, x9.at_ 8 _ rfl, x9.at_ 9 _ rfl, x9.at_ 10 _ rfl⟩; have y1 := (HPL.out W (HB5.out.trans (hW.mono HB5.out.size))).at_ 1 _ rfl; go_simp; first | done | exact rfl) (by intro _ _ _ h; exact h) hS0 ?_
        try go_simp
        refine wpAnyH_one (i := 5) (by kernel_rfl) rfl (fun K hK => ?_)
        go_simp
        refine (cN.out _ hS0).mono ?_
        rintro e v1 ⟨rfl, hb2⟩
        have hS1 : Below w5.heap.size w5 v1 := hS0.trans (hb2.mono hS0.size)
        clear hb2
        go_simp
        refine hK _ _ ⟨hS1, ?_⟩; clear hK K
        try go_simp
        refine wpAnyH_one (i := 6) (by kernel_rfl) rfl (fun K hK => ?_)
        go_simp
        refine (cU.out _ hS1).mono ?_
        rintro e v2 ⟨U, m, cu, rfl, hou, hb2⟩
        have hS2 : Below w5.heap.size w5 v2 := hS1.trans (hb2.mono hS1.size)
        have hm1 : m ≤ 21 := by have := row_len hou; have := HUI.out.1; omega
        have hm0 : (m : Int) ≤ 21 := by omega
        have HUL : Hid (m = up.length) := Lib.hid (row_len hou).symm
        have HSU := Lib.hid (SlI.own hou (by omega))
        clear hb2 hou hS0 hS1
        go_simp
        refine hK _ _ ⟨hS2, ?_⟩; clear hK K
        try go_simp
        refine wpAnyH_one (i := 7) (by kernel_rfl) rfl (fun K hK => ?_)
        go_simp
        refine hK _ _ ⟨hS2, ?_⟩; clear hK K
        try go_simp
        refine wpAnyH_done (by kernel_rfl) ?_ _
        try go_simp
        have HV2 : Hid (Below w4.heap.size w4 v2) := Lib.hid (HB5.out.trans (hS2.mono HB5.out.size))
        clear hS2 cN cU
        go_wp2_with fail
        go_loopw [6, 7, 9] (fun lv ov iv wr => ∃ (j : Nat) (A' : Option Addr) (c' : Nat), lv = .int .i64 (entL x.nodes li (up.take j)) ∧ ov = .slice A' j c' ∧ iv = .int .i64 (j : Int) ∧ j ≤ m ∧ Hid (wr.ownsRow v2.heap.size 46 2 (.slice A' j c') j ((entM x.nodes li (up.take j)).flatMap cE) ∧ Below v2.heap.size v2 wr)) (fun _ _ iv _ => m - (intOf iv).toNat)
        case atStart => exact ⟨0, none, 0, rfl, rfl, rfl, Nat.zero_le _, Lib.hid ⟨⟨rfl, .inl ⟨rfl, rfl⟩⟩, Below.refl _ _⟩⟩
        case round =>
          obtain ⟨j, A', c', rfl, rfl, rfl, hj, HK⟩ := hrel
          have hj0 : (0 : Int) ≤ (j : Int) := by omega
          have hj1 : (j : Int) ≤ 21 := by omega
          have HO := Lib.hid HK.out.1
          have HBr := Lib.hid HK.out.2
          clear HK
          by_cases hlt : j < m
          · have hjm : (j : Int) < (m : Int) := by omega
            obtain ⟨ub, uo, u, rfl, hub, hu, uc0⟩ := SlR.cell1 (f := Value.int .i64) HSU.out (i := j) hlt
            obtain ⟨hu0, hu1⟩ := HUI.out.2 u (List.mem_of_getElem? hu)
            obtain ⟨q, rfl⟩ := Int.eq_ofNat_of_zero_le hu0
            have hq6 : q < n6 := by omega
            obtain ⟨nb, no, z, rfl, hnb, hz, -, z1, z2, -⟩ := sln_at (HF4.out v2 HV2.out).r6 hq6
            have HFN : Hid (fnAt x.nodes (q : Int) = z.fn) := Lib.hid (by unfold fnAt; rw [List.getD_eq_getElem?_getD, show ((q : Int).toNat) = q from rfl, hz]; rfl)
            have HLNN : Hid (lnAt x.nodes (q : Int) = z.line) := Lib.hid (by unfold lnAt; rw [List.getD_eq_getElem?_getD, show ((q : Int).toNat) = q from rfl, hz]; rfl)
            obtain ⟨zf, hzf⟩ : ∃ v, z.fn = v := ⟨_, rfl⟩
            obtain ⟨zl, hzl⟩ : ∃ v, z.line = v := ⟨_, rfl⟩
            rw [hzf] at z1 HFN
            rw [hzl] at z2 HLNN
            have HT : Hid (up.take (j + 1) = up.take j ++ [(q : Int)]) := Lib.hid (take_snoc' up j _ hu).symm
            obtain ⟨le, hle⟩ : ∃ v, entL x.nodes li (up.take j) = v := ⟨_, rfl⟩
            have HE1 : Hid (entM x.nodes li (up.take (j + 1)) = entM x.nodes li (up.take j) ++ [(zf, le)]) := Lib.hid (by rw [HT.out, entM_snoc, HFN.out, hle])
            have HE2 : Hid (entL x.nodes li (up.take (j + 1)) = zl) := Lib.hid (by rw [HT.out, entL_snoc, HLNN.out])
            obtain ⟨ls, hls⟩ : ∃ l, entM x.nodes li (up.take j) = l := ⟨_, rfl⟩
            rw [hls] at HE1
            rw [hls] at HO
            rw [hle]
            have HRD : Hid (∀ W, Below v2.heap.size v2 W → W.cell? ⟨ub, uo + j, none⟩ = some (.int .i64 (q : Int)) ∧ W.cell? ⟨nb, no + q * 7 + 1, none⟩ = some (.int .i64 zf) ∧ W.cell? ⟨nb, no + q * 7 + 2, none⟩ = some (.int .i64 zl)) := Lib.hid fun W hW => ⟨(hW.cell (p := ⟨ub, uo + j, none⟩) hub).trans uc0, (hW.cell (p := ⟨nb, no + q * 7 + 1, none⟩) hnb).trans z1, (hW.cell (p := ⟨nb, no + q * 7 + 2, none⟩) hnb).trans z2⟩
            have hqn : (q : Int) < (n6 : Int) := by omega
            have hq0 : (0 : Int) ≤ (q : Int) := by omega
            clear hu hz hzf hzl uc0 hu0 hu1 z1 z2 hle hls
            go_wp2_with fail
            refine wp_region_held (S := fun W => Below v2.heap.size v2 W) (by kernel_rfl) ?_
            change wpAnyH _ _ _ _ _ _ _ _ (World.drew _)
            have hS0 : Below v2.heap.size v2 wr.drew := HBr.out.drew
            refine wpAnyH_tk (i := 0) rfl (by kernel_rfl) (by kernel_rfl) (by kernel_rfl) (by rfl) (by intro W hW; go_simp; first | done | exact rfl) (by intro _ _ _ h; exact h) hS0 ?_
            try go_simp
            refine wpAnyH_tk (i := 1) rfl (by kernel_rfl) (by kernel_rfl) (by kernel_rfl) (by rfl) (by intro W hW; go_simp; first | done | exact rfl) (by intro _ _ _ h; exact h) hS0 ?_
            try go_simp
            refine wpAnyH_tk (i := 2) rfl (by kernel_rfl) (by kernel_rfl) (by kernel_rfl) (by rfl) (by intro W hW; have x9 := HCT.out W (HV2.out.trans (hW.mono HV2.out.size)); have e8 := x9.at_ 8 _ rfl; obtain ⟨a1, a2, a3⟩ := HRD.out W hW; go_simp; first | done | exact rfl) (by intro _ _ _ h; exact h) hS0 ?_
            try go_simp
            refine wpAnyH_tk (i := 3) rfl (by kernel_rfl) (by kernel_rfl) (by kernel_rfl) (by rfl) (by intro W hW; go_simp; first | done | exact rfl) (by intro _ _ _ h; exact h) hS0 ?_
            try go_simp
            refine wpAnyH_tk (i := 4) rfl (by kernel_rfl) (by kernel_rfl) (by kernel_rfl) (by rfl) (by intro W hW; go_simp; first | done | exact rfl) (by intro _ _ _ h; exact h) hS0 ?_
            try go_simp
            refine wpAnyH_tk (i := 5) rfl (by kernel_rfl) (by kernel_rfl) (by kernel_rfl) (by rfl) (by intro W hW; go_simp; first | done | exact rfl) (by intro _ _ _ h; exact h) hS0 ?_
            try go_simp
            refine wpAnyH_tk (i := 6) rfl (by kernel_rfl) (by kernel_rfl) (by kernel_rfl) (by rfl) (by intro W hW; have x9 := HCT.out W (HV2.out.trans (hW.mono HV2.out.size)); have e8 := x9.at_ 8 _ rfl; obtain ⟨a1, a2, a3⟩ := HRD.out W hW; go_simp; first | done | exact rfl) (by intro _ _ _ h; exact h) hS0 ?_
            try go_simp
            refine wpAnyH_tk (i := 7) rfl (by kernel_rfl) (by kernel_rfl) (by kernel_rfl) (by rfl) (by intro W hW; go_simp; first | done | exact rfl) (by intro _ _ _ h; exact h) hS0 ?_
            try go_simp
            refine wpAnyH_tk (i := 8) rfl (by kernel_rfl) (by kernel_rfl) (by kernel_rfl) (by rfl) (by intro W hW; go_simp; first | done | exact rfl) (by intro _ _ _ h; exact h) hS0 ?_
            try go_simp
            refine wpAnyH_tk (i := 9) rfl (by kernel_rfl) (by kernel_rfl) (by kernel_rfl) (by rfl) (by intro W hW; have x9 := HCT.out W (HV2.out.trans (hW.mono HV2.out.size)); have e8 := x9.at_ 8 _ rfl; obtain ⟨a1, a2, a3⟩ := HRD.out W hW; go_simp; first | done | exact rfl) (by intro _ _ _ h; exact h) hS0 ?_
            try go_simp
            refine wpAnyH_tk (i := 10) rfl (by kernel_rfl) (by kernel_rfl) (by kernel_rfl) (by rfl) (by intro W hW; go_simp; first | done | exact rfl) (by intro _ _ _ h; exact h) hS0 ?_
            try go_simp
            refine wpAnyH_tk (i := 11) rfl (by kernel_rfl) (by kernel_rfl) (by kernel_rfl) (by rfl) (by intro W hW; go_simp; first | done | exact rfl) (by intro _ _ _ h; exact h) hS0 ?_
            try go_simp
            obtain ⟨wd, hwd⟩ : ∃ X, wr.drew = X := ⟨_, rfl⟩
            have hod : wd.ownsRow v2.heap.size 46 2 (.slice A' j c') j (ls.flatMap cE) := by rw [← hwd]; exact own_keep HO.out ((Below.refl _ _).drew)
            rw [hwd] at hS0
            rw [hwd]
            clear hwd
            obtain ⟨wb, hwb⟩ : ∃ X, World.alloc wd (.cells #[.int .i64 zf, .int .i64 le] 46) = X := ⟨_, rfl⟩
            obtain ⟨lb, hlb⟩ : ∃ X, (World.heap wd).size = X := ⟨_, rfl⟩
            have hsb : Below v2.heap.size v2 wb := by rw [← hwb]; exact hS0.alloc hS0.size _
            have HOB : Hid (wb.ownsRow v2.heap.size 46 2 (.slice A' j c') j (ls.flatMap cE)) := Lib.hid (by rw [← hwb]; exact hod.alloc _)
            have HSC : Hid (SrcCells wb (some ⟨lb, 0, none⟩) 1 2 ([(zf, le)].flatMap cE)) := Lib.hid (sle_src (sle_one (by rw [← hwb, ← hlb]; exact Cells.new wd [.int .i64 zf, .int .i64 le] _)))
            have HSB := Lib.hid hsb
            refine wpAnyH_one (i := 12) (by kernel_rfl) rfl (fun K hK => ?_)
            go_simp
            try rw [hwb]
            try rw [hlb]
            refine hK _ _ ⟨hsb, ?_⟩; clear hK K hwb hlb hod
            try go_simp
            refine wpAnyH_one (i := 13) (by kernel_rfl) rfl (fun K hK => ?_)
            refine step_append_src _ rfl _ _ 28 rfl v2.heap.size 46 i0 (.agg #[.int .i64 0, .int .i64 0]) 2 16 Try.underlying28 hi0 hz0 hz1 hz2 rfl (by decide) (.slice A' j c') j (ls.flatMap cE) ?qq1 HOB.out (some ⟨lb, 0, none⟩) 1 1 ([(zf, le)].flatMap cE) ?qq2 HSC.out (ent_cells _) (by unfold maxLen; omega) (by omega) hsb.size ?_
            case qq1 => go_simp
            case qq2 => go_simp
            intro v' w7 hown' hgrow3 hat3
            obtain ⟨A2, k2, rfl, X1, X2⟩ := app_ent HSB.out HSB.out.size HOB.out hown' hgrow3
            have XR := Lib.hid X1
            have XB := Lib.hid X2
            have hXB : Below v2.heap.size v2 w7 := X2
            clear X1 X2 hown' hgrow3 hat3 hsb hS0
            go_simp
            refine hK _ _ ⟨hXB, ?_⟩; clear hK K
            try go_simp
            refine wpAnyH_one (i := 14) (by kernel_rfl) rfl (fun K hK => ?_)
            go_simp
            refine hK _ _ ⟨hXB, ?_⟩; clear hK K
            try go_simp
            refine wpAnyH_done (by kernel_rfl) ?_ _
            try go_simp
            obtain ⟨a1, a2, a3⟩ := HRD.out w7 hXB
            have e8 := (HCT.out w7 (HV2.out.trans (hXB.mono HV2.out.size))).at_ 8 _ rfl
            clear hXB
            go_wp2_with fail
            go_quiet (fail)
            go_wp2_with fail
            go_roundw
            case rel => exact ⟨j + 1, A2, k2, by rw [HE2.out], rfl, by go_num, by omega, Lib.hid ⟨by rw [HE1.out]; exact own_keep XR.out (below_drewN' (Below.refl _ _) _), below_drewN' XB.out _⟩⟩
            case measure => first | (simp [intOf]; done) | (simp [intOf]; omega)
          · obtain rfl : j = m := by omega
            go_wp2_with fail
            go_ret
            exact ⟨A', j, c', rfl, by rw [HEM.out, entM_len]; exact HUL.out, by rw [HEM.out]; exact own_less (by have := HO.out; rw [List.take_of_length_le (by have := HUL.out; omega)] at this; exact this) (HB04.out _ HV2.out).size, HB04.out _ (HV2.out.trans (HBr.out.mono HV2.out.size))⟩
    · have HE : Hid (expP fs (f : Int) pc = []) := Lib.hid (expP_neg fs f pc x HXL.out (by have := HL4.out.1; omega))
      by_cases hp0 : pc < 0
      · have t2 : decide (pc < 0) = true := by rw [decide_eq_true_eq]; exact hp0
        clear hp hp0
        go_wp2_with fail
        go_quiet (fail)
        go_wp2_with fail
        go_ret
        exact ent_nil _ _ rfl _ (HB2.out.trans (below_drewN' (Below.refl _ _) _ |>.mono HB2.out.size)) _ HE.out
      · have t2 : decide (pc < 0) = false := by rw [decide_eq_false_iff_not]; exact hp0
        obtain ⟨pc, rfl⟩ := Int.eq_ofNat_of_zero_le (show 0 ≤ pc by omega)
        have t2b : decide (pc < 0) = false := by rw [decide_eq_false_iff_not]; omega
        have t3 : decide ((pc : Int) ≥ (n4 : Int)) = true := by rw [decide_eq_true_eq]; omega
        have t3b : decide (n4 ≤ pc) = true := by rw [decide_eq_true_eq]; omega
        clear hp hp0
        go_wp2_with fail
        go_quiet (fail)
        go_wp2_with fail
        go_ret
        exact ent_nil _ _ rfl _ (HB2.out.trans (below_drewN' (Below.refl _ _) _ |>.mono HB2.out.size)) _ HE.out
  · have HE : Hid (expP fs f pc = []) := Lib.hid (expP_out fs f pc (by omega))
    obtain ⟨w1, hw1⟩ : ∃ X, w.alloc (.cells #[.slice FA fn fc] 24) = X := ⟨_, rfl⟩
    obtain ⟨g1, hg1⟩ : ∃ X, w.heap.size = X := ⟨_, rfl⟩
    have hb1 : Below w.heap.size w w1 := by rw [← hw1]; exact bl_one _
    have hc1 : Cells w1 g1 [.slice FA fn fc] := by rw [← hw1, ← hg1]; exact Cells.new w [.slice FA fn fc] _
    have hs1 : w1.heap.size = g1 + 1 := by rw [← hw1, ← hg1]; simp
    obtain ⟨w2, hw2⟩ : ∃ X, w1.alloc (.cells #[.int .i64 f, .int .i64 pc] 31) = X := ⟨_, rfl⟩
    have hb2 : Below w1.heap.size w1 w2 := by rw [← hw2]; exact bl_one _
    have hc2 : Cells w2 (g1 + 1) [.int .i64 f, .int .i64 pc] := by rw [← hw2, ← hs1]; exact Cells.new w1 [.int .i64 f, .int .i64 pc] _
    have hb02 : Below w.heap.size w w2 := hb1.trans (hb2.mono hb1.size)
    have HB2 := Lib.hid hb02
    have p0 := (hc1.on hb2).at_ 0 _ rfl
    have d0 := hc2.at_ 0 _ rfl
    have d1 := hc2.at_ 1 _ rfl
    clear hb1 hb2 hc1 hc2 h hln hb02
    go_enter Try.func8, Try.ntmps8
    by_cases hf0 : f < 0
    · have t2 : decide (f < 0) = true := by rw [decide_eq_true_eq]; exact hf0
      clear hf hf0
      go_wp2_with fail
      go_quiet (fail)
      go_wp2_with fail
      go_ret
      exact ent_nil _ _ rfl _ (HB2.out.trans (below_drewN' (Below.refl _ _) _ |>.mono HB2.out.size)) _ HE.out
    · have t2 : decide (f < 0) = false := by rw [decide_eq_false_iff_not]; exact hf0
      obtain ⟨f, rfl⟩ := Int.eq_ofNat_of_zero_le (show 0 ≤ f by omega)
      have t2b : decide (f < 0) = false := by rw [decide_eq_false_iff_not]; omega
      have t3 : decide ((f : Int) ≥ (fn : Int)) = true := by rw [decide_eq_true_eq]; omega
      have t3b : decide (fn ≤ f) = true := by rw [decide_eq_true_eq]; omega
      clear hf hf0
      go_wp2_with fail
      go_quiet (fail)
      go_wp2_with fail
      go_ret
      exact ent_nil _ _ rfl _ (HB2.out.trans (below_drewN' (Below.refl _ _) _ |>.mono HB2.out.size)) _ HE.out
end Go.Proofs.Ytobmjnmcjddhcaa

namespace Go.Proofs.Ytobmjnmcjddhcaa
open Go.RowKit
set_option linter.unusedSimpArgs false
set_option linter.unusedVariables false
def cP (x : DPlace) : List Value := [.int .i64 x.fn, .int .i64 x.pc]
abbrev SlP (w : World) (B : Nat) (A : Option Addr) (n c : Nat) (xs : List DPlace) : Prop := SlR 2 16 (RC cP) w B A n c xs
theorem slp_of {w : World} {B : Nat} {A : Option Addr} {n c : Nat} {xs : List DPlace} (h : SlR 2 16 RPlace w B A n c xs) : SlP w B A n c xs := h.imp fun cs x _ hr => hr.1
theorem SlP.at2 {w : World} {B n c : Nat} {A : Option Addr} {xs : List DPlace} (h : SlP w B A n c xs) {j : Nat} (hj : j < n) : ∃ b off e, A = some ⟨b, off, none⟩ ∧ b < B ∧ xs[j]? = some e ∧ w.cell? ⟨b, off + j * 2, none⟩ = some (.int .i64 e.fn) ∧ w.cell? ⟨b, off + j * 2 + 1, none⟩ = some (.int .i64 e.pc) := by
  obtain ⟨b, off, e, cs, hA, hb, he, _, hc, hr⟩ := SlR.at_ h hj
  unfold RC at hr
  subst hr
  exact ⟨b, off, e, hA, hb, he, by simpa using hc 0 _ rfl, by simpa [Nat.add_assoc] using hc 1 _ rfl⟩
theorem SlP.keep {w w' : World} {B : Nat} {A : Option Addr} {n c : Nat} {xs : List DPlace} (h : SlP w B A n c xs) (hb : Below B w w') : SlP w' B A n c xs := SlR.keep (stable_rc _) h fun p hp => hb.cell hp
def allM (fs : List DFunc) (l : List DPlace) : List (Int × Int) := l.flatMap fun x => expP fs x.fn x.pc
theorem allM_snoc (fs : List DFunc) (l : List DPlace) (j : Nat) (e : DPlace) (he : l[j]? = some e) : allM fs (l.take (j + 1)) = allM fs (l.take j) ++ expP fs e.fn e.pc := by
  unfold allM
  rw [← take_snoc' l j e he, List.flatMap_append]
  simp
theorem expP_len (fs : List DFunc) (hs : ∀ x ∈ fs, smallF x = true) (f pc : Int) : (expP fs f pc).length ≤ 21 := by
  unfold expP
  split
  · rename_i h
    refine expM_len21 _ _ _ ?_
    obtain ⟨x, hx⟩ : ∃ x, fs[f.toNat]? = some x := ⟨_, List.getElem?_eq_getElem (by omega)⟩
    rw [List.getD_eq_getElem?_getD, hx]
    have := hs x (List.mem_of_getElem? hx)
    unfold smallF smallB at this
    simp at this
    exact this.2.2.1
  · simp
theorem allM_len (fs : List DFunc) (hs : ∀ x ∈ fs, smallF x = true) : ∀ l : List DPlace, (allM fs l).length ≤ 21 * l.length
  | [] => by simp [allM]
  | x :: l => by
    have h1 := allM_len fs hs l
    have h2 := expP_len fs hs x.fn x.pc
    unfold allM at *
    rw [List.flatMap_cons, List.length_append, List.length_cons]
    omega
set_option maxRecDepth 100000 in
set_option maxHeartbeats 32000000 in
theorem all_any (FA : Option Addr) (fn fc : Nat) (fs : List DFunc) (QA : Option Addr) (n c : Nat) (l : List DPlace) (B : Nat) (w : World) (h : PgC w FA fn fc fs) (hl : SlP w B QA n c l) (hB : B ≤ w.heap.size) (hn : n ≤ 30) :
    Calls Try.prog 12 #[.agg #[.slice FA fn fc], .slice QA n c] w (IsEnt (allM fs l) w) := by
  obtain ⟨i0, hi0, hz0, hz1, hz2⟩ := info_parts info_entry
  obtain ⟨w1, hw1⟩ : ∃ X, w.alloc (.cells #[.slice FA fn fc] 24) = X := ⟨_, rfl⟩
  obtain ⟨g, hg⟩ : ∃ g, w.heap.size = g := ⟨_, rfl⟩
  have hb1 : Below w.heap.size w w1 := by rw [← hw1]; exact bl_one _
  have hc1 : Cells w1 g [.slice FA fn fc] := by rw [← hw1, ← hg]; exact Cells.new w [.slice FA fn fc] _
  have EP : Hid (∀ W, Below w1.heap.size w1 W → W.cell? ⟨g, 0, none⟩ = some (.slice FA fn fc)) := Lib.hid fun W hW => (hc1.on hW).at_ 0 _ rfl
  have HP : Hid (∀ W, Below w1.heap.size w1 W → PgC W FA fn fc fs) := Lib.hid fun W hW => h.on (hb1.trans (hW.mono hb1.size))
  have HBW : Hid (∀ W, Below w1.heap.size w1 W → Below w.heap.size w W) := Lib.hid fun W hW => hb1.trans (hW.mono hb1.size)
  have HSP : Hid (∀ W, Below w1.heap.size w1 W → SlP W B QA n c l) := Lib.hid fun W hW => hl.keep ((HBW.out W hW).mono hB)
  have HBB : Hid (B ≤ w1.heap.size) := Lib.hid (Nat.le_trans hB hb1.size)
  have HLL : Hid (l.length = n) := Lib.hid hl.1
  have HSM := Lib.hid h.pg.sm
  have hn0 : (n : Int) ≤ 30 := by omega
  clear h hb1 hc1 hl hB
  go_enter Try.func12, Try.ntmps12
  go_wp2_with fail
  go_loopw [5, 10] (fun ov iv wr => ∃ (j k : Nat) (A' : Option Addr) (c' : Nat), ov = .slice A' k c' ∧ iv = .int .i64 (j : Int) ∧ j ≤ n ∧ k ≤ 21 * j ∧ Hid (k = (allM fs (l.take j)).length ∧ wr.ownsRow w1.heap.size 46 2 (.slice A' k c') k ((allM fs (l.take j)).flatMap cE) ∧ Below w1.heap.size w1 wr)) (fun _ iv _ => n - (intOf iv).toNat)
  case atStart => exact ⟨0, 0, none, 0, rfl, rfl, Nat.zero_le _, Nat.zero_le _, Lib.hid ⟨rfl, ⟨rfl, .inl ⟨rfl, rfl⟩⟩, Below.refl _ _⟩⟩
  case round =>
    obtain ⟨j, k, A', c', rfl, rfl, hj, hk, HK⟩ := hrel
    have hj0 : (0 : Int) ≤ (j : Int) := by omega
    have HKL := Lib.hid HK.out.1
    have HO := Lib.hid HK.out.2.1
    have HBr := Lib.hid HK.out.2.2
    clear HK
    by_cases hlt : j < n
    · have hjn : (j : Int) < (n : Int) := by omega
      obtain ⟨pb, po, e, rfl, hpb, he, q0, q1⟩ := (HSP.out wr HBr.out).at2 hlt
      have HAS : Hid (allM fs (l.take (j + 1)) = allM fs (l.take j) ++ expP fs e.fn e.pc) := Lib.hid (allM_snoc fs l j e he)
      obtain ⟨ef, epc⟩ := e
      simp only at q0 q1 HAS
      obtain ⟨w2, hw2⟩ : ∃ X, wr.alloc (.cells #[.int .i64 ef, .int .i64 epc] 31) = X := ⟨_, rfl⟩
      obtain ⟨g2, hg2⟩ : ∃ X, wr.heap.size = X := ⟨_, rfl⟩
      have hb2 : Below wr.heap.size wr w2 := by rw [← hw2]; exact bl_one _
      have hc2 : Cells w2 g2 [.int .i64 ef, .int .i64 epc] := by rw [← hw2, ← hg2]; exact Cells.new wr [.int .i64 ef, .int .i64 epc] _
      have HB2 : Hid (Below w1.heap.size w1 w2) := Lib.hid (HBr.out.trans (hb2.mono HBr.out.size))
      have HO2 := Lib.hid (own_keep HO.out hb2)
      have d0 := hc2.at_ 0 _ rfl
      have d1 := hc2.at_ 1 _ rfl
      have p2 := EP.out w2 HB2.out
      have cE := Lib.hid (expand_any FA fn fc fs ef epc w2 (HP.out w2 HB2.out))
      obtain ⟨ns, hns⟩ : ∃ x, expP fs ef epc = x := ⟨_, rfl⟩
      have HNL : Hid (ns.length ≤ 21) := Lib.hid (by rw [← hns]; exact expP_len fs HSM.out _ _)
      rw [hns] at cE HAS
      obtain ⟨ls, hls⟩ : ∃ x, allM fs (l.take j) = x := ⟨_, rfl⟩
      rw [hls] at HAS HKL
      rw [hls] at HO2
      clear he hb2 hc2 hns hls HO
      go_wp2_with fail
      refine cE.out.mono ?_
      rintro e w3 ⟨A, m, c3, rfl, hm, hown, hb3⟩
      have HB3 : Hid (Below w1.heap.size w1 w3) := Lib.hid (HB2.out.trans (hb3.mono HB2.out.size))
      have HO3 := Lib.hid (own_keep HO2.out hb3)
      have hm21 : m ≤ 21 := by have := HNL.out; omega
      have HM := Lib.hid hm
      have hsrc := Lib.hid (sle_src (SlE.own hown (by omega)))
      clear hm hown hb3 cE d0 d1 p2 q0 q1
      go_wp2_with (first
        | (at_builtin; go_must (refine wpList_append_src _ rfl _ _ 28 rfl w1.heap.size 46 i0 (.agg #[.int .i64 0, .int .i64 0]) 2 16 Try.underlying28 hi0 hz0 hz1 hz2 rfl (by decide) (.slice A' k c') k (ls.flatMap cE) rfl HO3.out A m c3 (ns.flatMap cE) rfl hsrc.out (ent_cells _) (by unfold maxLen; omega) (by omega) HB3.out.size ?_)
           intro v' w17 hown' hgrow3 hat3
           obtain ⟨A7, c7', rfl, X1, X2⟩ := app_ent HB3.out HB3.out.size HO3.out hown' hgrow3
           have XR := Lib.hid X1
           have XB := Lib.hid X2
           clear X1 X2 hown' hgrow3 hat3)
        | fail)
      go_roundw
      case rel => exact ⟨j + 1, k + m, _, _, rfl, by go_num, by omega, by omega, Lib.hid ⟨by rw [HAS.out, List.length_append, ← HKL.out, ← HM.out], by rw [HAS.out]; exact XR.out, XB.out⟩⟩
      case measure => first | (simp [intOf]; done) | (simp [intOf]; omega)
    · obtain rfl : j = n := by omega
      have HEQ : Hid (l.take j = l) := Lib.hid (List.take_of_length_le (by have := HLL.out; omega))
      go_wp2_with fail
      go_ret
      exact ⟨A', k, c', rfl, by rw [← HEQ.out]; exact HKL.out, own_less (by have := HO.out; rw [HEQ.out] at this; exact this) (HBW.out _ (Below.refl _ _)).size, HBW.out _ HBr.out⟩
end Go.Proofs.Ytobmjnmcjddhcaa

namespace Go.Proofs.Ytobmjnmcjddhcaa
open Go.RowKit
set_option linter.unusedSimpArgs false
set_option linter.unusedVariables false
set_option maxRecDepth 100000 in
set_option maxHeartbeats 64000000 in
theorem traceExpands_walk (cs0 : Array Value) (x0 : DProgram) (QA : Option Addr) (n c : Nat) (l0 : List DPlace) (w : World) (h0 : RProgram w w.heap.size cs0.toList x0) (h1 : SlR 2 16 RPlace w w.heap.size QA n c l0) :
    Calls Try.prog 3 #[.agg cs0, .slice QA n c] w fun e w' => e = .returned (.bool true) ∧ Below w.heap.size w w' := by
  obtain ⟨i0, hi0, hz0, hz1, hz2⟩ := info_parts info_entry
  obtain ⟨FA, fn, fc, e0, hfs⟩ := h0
  obtain rfl : cs0 = #[.slice FA fn fc] := by rw [← Array.toArray_toList (xs := cs0), e0]
  obtain ⟨fs⟩ := x0
  dsimp only at hfs
  have cl := Lib.hid trace_lives
  obtain ⟨w1, hw1⟩ : ∃ X, w.alloc (.cells #[.slice FA fn fc] 24) = X := ⟨_, rfl⟩
  obtain ⟨g, hg⟩ : ∃ g, w.heap.size = g := ⟨_, rfl⟩
  have hb1 : Below w.heap.size w w1 := by rw [← hw1]; exact bl_one _
  have hc1 : Cells w1 g [.slice FA fn fc] := by rw [← hw1, ← hg]; exact Cells.new w [.slice FA fn fc] _
  have EP : Hid (∀ W, Below w1.heap.size w1 W → W.cell? ⟨g, 0, none⟩ = some (.slice FA fn fc)) := Lib.hid fun W hW => (hc1.on hW).at_ 0 _ rfl
  have HB1 := Lib.hid hb1
  have HBW : Hid (∀ W, Below w1.heap.size w1 W → Below w.heap.size w W) := Lib.hid fun W hW => hb1.trans (hW.mono hb1.size)
  have HFS : Hid (∀ W, Below w1.heap.size w1 W → SlR 11 240 RFunc W w.heap.size FA fn fc fs) := Lib.hid fun W hW => SlR.keep stable_Func hfs fun p hp => (hb1.trans (hW.mono hb1.size)).cell hp
  have HSP : Hid (∀ W, Below w1.heap.size w1 W → SlP W w.heap.size QA n c l0) := Lib.hid fun W hW => (slp_of h1).keep (HBW.out W hW)
  have HLL : Hid (l0.length = n) := Lib.hid h1.1
  have cSm := Lib.hid (small16_any w.heap.size FA fn fc fs w1 (HFS.out w1 (Below.refl _ _)) hb1.size)
  have HLN : Hid (fs.length = fn) := Lib.hid hfs.1
  have p0 := EP.out w1 (Below.refl _ _)
  clear hb1 hc1 hfs e0 h1
  go_enter Try.func3, Try.ntmps3
  go_wp2_with fail
  refine cSm.out.mono ?_
  rintro e w2 ⟨r, rfl, hr, hb2⟩
  have HR := Lib.hid hr
  have HB2 := Lib.hid hb2
  clear hr hb2 cSm p0
  cases r with
  | false =>
    go_wp2_with fail
    refine (cl.out _).mono ?_
    rintro e w9 ⟨rfl, hb9⟩
    have HB9 : Hid (Below w.heap.size w w9) := Lib.hid (HBW.out _ (HB2.out.trans (hb9.mono HB2.out.size)))
    clear hb9
    go_wp2_with fail
    go_ret
    exact ⟨rfl, HB9.out⟩
  | true =>
    obtain ⟨hfn0, hsm⟩ := HR.out rfl
    have hfn : fn ≤ 50 := by have := HLN.out; omega
    have HPO : Hid (∀ W, Below w1.heap.size w1 W → PgO W FA fn fc fs) := Lib.hid fun W hW => ⟨⟨w.heap.size, by have := (HBW.out W hW).size; omega, HFS.out W hW⟩, hsm, hfn⟩
    have HSM := Lib.hid hsm
    have p2 := EP.out w2 HB2.out
    have cF := Lib.hid (rfine_any FA fn fc fs w2 (HPO.out w2 HB2.out))
    clear hsm HR hfn0
    go_wp2_with fail
    refine cF.out.mono ?_
    rintro e w3 ⟨r, rfl, hr, hb3⟩
    have HR := Lib.hid hr
    have HB3 : Hid (Below w1.heap.size w1 w3) := Lib.hid (HB2.out.trans (hb3.mono HB2.out.size))
    clear hr hb3 cF p2
    cases r with
    | false =>
      go_wp2_with fail
      refine (cl.out _).mono ?_
      rintro e w9 ⟨rfl, hb9⟩
      have HB9 : Hid (Below w.heap.size w w9) := Lib.hid (HBW.out _ (HB3.out.trans (hb9.mono HB3.out.size)))
      clear hb9
      go_wp2_with fail
      go_ret
      exact ⟨rfl, HB9.out⟩
    | true =>
      have HP : Hid (∀ W, Below w1.heap.size w1 W → PgC W FA fn fc fs) := Lib.hid fun W hW => fine_get (HPO.out W hW) (HR.out rfl)
      by_cases hn : 30 < n
      · have t0 : decide ((n : Int) > 30) = true := by rw [decide_eq_true_eq]; omega
        have t0b : decide (30 < n) = true := by rw [decide_eq_true_eq]; omega
        go_wp2_with fail
        refine (cl.out _).mono ?_
        rintro e w9 ⟨rfl, hb9⟩
        have HB9 : Hid (Below w.heap.size w w9) := Lib.hid (HBW.out _ (HB3.out.trans (hb9.mono HB3.out.size)))
        clear hb9
        go_wp2_with fail
        go_ret
        exact ⟨rfl, HB9.out⟩
      · have t0 : decide ((n : Int) > 30) = false := by rw [decide_eq_false_iff_not]; omega
        have t0b : decide (30 < n) = false := by rw [decide_eq_false_iff_not]; omega
        have hn0 : (n : Int) ≤ 30 := by omega
        have hn1 : n ≤ 30 := by omega
        clear HR
        go_wp2_with fail
        clear t0 t0b
        go_loopw [5, 6] (fun ov iv wr => ∃ (j k : Nat) (A' : Option Addr) (c' : Nat), ov = .slice A' k c' ∧ iv = .int .i64 (j : Int) ∧ j ≤ n ∧ k ≤ 21 * j ∧ Hid (k = (allM fs (l0.take j)).length ∧ wr.ownsRow w1.heap.size 46 2 (.slice A' k c') k ((allM fs (l0.take j)).flatMap cE) ∧ Below w1.heap.size w1 wr)) (fun _ iv _ => n - (intOf iv).toNat)
        case atStart => exact ⟨0, 0, none, 0, rfl, rfl, Nat.zero_le _, Nat.zero_le _, Lib.hid ⟨rfl, ⟨rfl, .inl ⟨rfl, rfl⟩⟩, HB3.out⟩⟩
        case round =>
          obtain ⟨j, k, A', c', rfl, rfl, hj, hk, HK⟩ := hrel
          have hj0 : (0 : Int) ≤ (j : Int) := by omega
          have HKL := Lib.hid HK.out.1
          have HO := Lib.hid HK.out.2.1
          have HBr := Lib.hid HK.out.2.2
          clear HK
          by_cases hlt : j < n
          · have hjn : (j : Int) < (n : Int) := by omega
            obtain ⟨pb, po, e, rfl, hpb, he, q0, q1⟩ := (HSP.out wr HBr.out).at2 hlt
            have HAS : Hid (allM fs (l0.take (j + 1)) = allM fs (l0.take j) ++ expP fs e.fn e.pc) := Lib.hid (allM_snoc fs l0 j e he)
            obtain ⟨ef, epc⟩ := e
            simp only at q0 q1 HAS
            have HQ : Hid (∀ W, Below wr.heap.size wr W → W.cell? ⟨pb, po + j * 2, none⟩ = some (.int .i64 ef) ∧ W.cell? ⟨pb, po + j * 2 + 1, none⟩ = some (.int .i64 epc)) := Lib.hid fun W hW => ⟨(hW.cell (p := ⟨pb, po + j * 2, none⟩) (World.block_lt_of_cell? _ _ q0)).trans q0, (hW.cell (p := ⟨pb, po + j * 2 + 1, none⟩) (World.block_lt_of_cell? _ _ q1)).trans q1⟩
            have HWR : Hid (∀ W, Below wr.heap.size wr W → Below w1.heap.size w1 W) := Lib.hid fun W hW => HBr.out.trans (hW.mono HBr.out.size)
            obtain ⟨ns, hns⟩ : ∃ x, expP fs ef epc = x := ⟨_, rfl⟩
            have HNL : Hid (ns.length ≤ 21) := Lib.hid (by rw [← hns]; exact expP_len fs HSM.out _ _)
            have cX : Hid (∀ W, Below wr.heap.size wr W → Calls Try.prog 10 #[.agg #[.slice FA fn fc], .agg #[.int .i64 ef, .int .i64 epc]] W (IsEnt ns W)) := Lib.hid fun W hW => by rw [← hns]; exact expand_any FA fn fc fs ef epc W (HP.out W (HWR.out W hW))
            have cY : Hid (∀ W, Below wr.heap.size wr W → Calls Try.prog 8 #[.agg #[.slice FA fn fc], .agg #[.int .i64 ef, .int .i64 epc]] W (IsEnt ns W)) := Lib.hid fun W hW => by rw [← hns]; exact lexp_any FA fn fc fs ef epc W (HP.out W (HWR.out W hW))
            have cD : Hid (∀ W, Below wr.heap.size wr W → Calls Try.prog 11 #[.agg #[.slice FA fn fc], .agg #[.int .i64 ef, .int .i64 epc]] W fun e w' => e = .returned (.int .i64 (ns.length : Int)) ∧ Below W.heap.size W w') := Lib.hid fun W hW => by rw [← hns]; exact depth_any FA fn fc fs ef epc W (HP.out W (HWR.out W hW))
            rw [hns] at HAS
            obtain ⟨ls, hls⟩ : ∃ x, allM fs (l0.take j) = x := ⟨_, rfl⟩
            rw [hls] at HAS HKL
            rw [hls] at HO
            clear he q0 q1 hns hls
            go_wp2_with fail
            refine wp_region_held (S := fun W => Below wr.heap.size wr W) (by kernel_rfl) ?_
            change wpAnyH _ _ _ _ _ _ _ _ (World.drew _)
            have hS0 : Below wr.heap.size wr wr.drew := (Below.refl _ _).drew
            refine wpAnyH_tk (i := 0) rfl (by kernel_rfl) (by kernel_rfl) (by kernel_rfl) (by rfl) (by intro W hW; have p9 := EP.out W (HWR.out W hW); go_simp; first | done | exact rfl) (by intro _ _ _ h; exact h) hS0 ?_
            try go_simp
            refine wpAnyH_tk (i := 1) rfl (by kernel_rfl) (by kernel_rfl) (by kernel_rfl) (by rfl) (by intro W hW; go_simp; first | done | exact rfl) (by intro _ _ _ h; exact h) hS0 ?_
            try go_simp
            refine wpAnyH_tk (i := 2) rfl (by kernel_rfl) (by kernel_rfl) (by kernel_rfl) (by rfl) (by intro W hW; go_simp; first | done | exact rfl) (by intro _ _ _ h; exact h) hS0 ?_
            try go_simp
            refine wpAnyH_tk (i := 3) rfl (by kernel_rfl) (by kernel_rfl) (by kernel_rfl) (by rfl) (by intro W hW; go_simp; first | done | exact rfl) (by intro _ _ _ h; exact h) hS0 ?_
            try go_simp
            refine wpAnyH_tk (i := 4) rfl (by kernel_rfl) (by kernel_rfl) (by kernel_rfl) (by rfl) (by intro W hW; obtain ⟨q0, q1⟩ := HQ.out W hW; go_simp; first | done | exact rfl) (by intro _ _ _ h; exact h) hS0 ?_
            try go_simp
            refine wpAnyH_one (i := 5) (by kernel_rfl) rfl (fun K hK => ?_)
            go_simp
            refine (cY.out _ hS0).mono ?_
            rintro e w4 ⟨WA, m, wc4, rfl, hm, hown, hb4⟩
            have hS4 : Below wr.heap.size wr w4 := hS0.trans (hb4.mono hS0.size)
            have hm21 : m ≤ 21 := by have := HNL.out; omega
            have hm0 : (m : Int) ≤ 21 := by omega
            have HM := Lib.hid hm
            have HWO := Lib.hid (SlE.own hown (by omega))
            clear hb4 hm hown hS0
            go_simp
            refine hK _ _ ⟨hS4, ?_⟩; clear hK K
            try go_simp
            refine wpAnyH_one (i := 6) (by kernel_rfl) rfl (fun K hK => ?_)
            go_simp
            refine hK _ _ ⟨hS4, ?_⟩; clear hK K
            try go_simp
            refine wpAnyH_done (by kernel_rfl) ?_ _
            try go_simp
            have HS4 := Lib.hid hS4
            clear hS4
            go_wp2_with fail
            refine wp_region_held (S := fun W => Below w4.heap.size w4 W) (by kernel_rfl) ?_
            change wpAnyH _ _ _ _ _ _ _ _ (World.drew _)
            have hS0 : Below w4.heap.size w4 w4.drew := (Below.refl _ _).drew
            refine wpAnyH_tk (i := 0) rfl (by kernel_rfl) (by kernel_rfl) (by kernel_rfl) (by rfl) (by intro W hW; have p9 := EP.out W (HWR.out W (HS4.out.trans (hW.mono HS4.out.size))); go_simp; first | done | exact rfl) (by intro _ _ _ h; exact h) hS0 ?_
            try go_simp
            refine wpAnyH_tk (i := 1) rfl (by kernel_rfl) (by kernel_rfl) (by kernel_rfl) (by rfl) (by intro W hW; go_simp; first | done | exact rfl) (by intro _ _ _ h; exact h) hS0 ?_
            try go_simp
            refine wpAnyH_tk (i := 2) rfl (by kernel_rfl) (by kernel_rfl) (by kernel_rfl) (by rfl) (by intro W hW; go_simp; first | done | exact rfl) (by intro _ _ _ h; exact h) hS0 ?_
            try go_simp
            refine wpAnyH_tk (i := 3) rfl (by kernel_rfl) (by kernel_rfl) (by kernel_rfl) (by rfl) (by intro W hW; go_simp; first | done | exact rfl) (by intro _ _ _ h; exact h) hS0 ?_
            try go_simp
            refine wpAnyH_tk (i := 4) rfl (by kernel_rfl) (by kernel_rfl) (by kernel_rfl) (by rfl) (by intro W hW; obtain ⟨q0, q1⟩ := HQ.out W (HS4.out.trans (hW.mono HS4.out.size)); go_simp; first | done | exact rfl) (by intro _ _ _ h; exact h) hS0 ?_
            try go_simp
            refine wpAnyH_tk (i := 6) rfl (by kernel_rfl) (by kernel_rfl) (by kernel_rfl) (by rfl) (by intro W hW; go_simp; first | done | exact rfl) (by intro _ _ _ h; exact h) hS0 ?_
            try go_simp
            refine wpAnyH_one (i := 5) (by kernel_rfl) rfl (fun K hK => ?_)
            go_simp
            refine (cX.out _ (HS4.out.trans (hS0.mono HS4.out.size))).mono ?_
            rintro e w5 ⟨EA, m5, ec5, rfl, hm5, hown5, hb5⟩
            obtain rfl : m5 = m := by have := HM.out; omega
            have hS5 : Below w4.heap.size w4 w5 := hS0.trans (hb5.mono hS0.size)
            have cN := Lib.hid (rentries_same EA WA m5 ec5 wc4 ns w5 (SlE.own hown5 (by omega)) (HWO.out.on hS5) (by omega))
            clear hb5 hm5 hown5 hS0
            go_simp
            refine hK _ _ ⟨hS5, ?_⟩; clear hK K
            try go_simp
            refine wpAnyH_one (i := 7) (by kernel_rfl) rfl (fun K hK => ?_)
            go_simp
            refine cN.out.mono ?_
            rintro e w6 ⟨rfl, hb6⟩
            have hS6 : Below w4.heap.size w4 w6 := hS5.trans (hb6.mono hS5.size)
            clear hb6 hS5 cN
            go_simp
            refine hK _ _ ⟨hS6, ?_⟩; clear hK K
            try go_simp
            refine wpAnyH_tk (i := 8) rfl (by kernel_rfl) (by kernel_rfl) (by kernel_rfl) (by rfl) (by intro W hW; go_simp; first | done | exact rfl) (by intro _ _ _ h; exact h) hS6 ?_
            try go_simp
            refine wpAnyH_tk (i := 9) rfl (by kernel_rfl) (by kernel_rfl) (by kernel_rfl) (by rfl) (by intro W hW; go_simp; first | done | exact rfl) (by intro _ _ _ h; exact h) hS6 ?_
            try go_simp
            refine wpAnyH_tk (i := 10) rfl (by kernel_rfl) (by kernel_rfl) (by kernel_rfl) (by rfl) (by intro W hW; have p9 := EP.out W (HWR.out W (HS4.out.trans (hW.mono HS4.out.size))); go_simp; first | done | exact rfl) (by intro _ _ _ h; exact h) hS6 ?_
            try go_simp
            refine wpAnyH_tk (i := 11) rfl (by kernel_rfl) (by kernel_rfl) (by kernel_rfl) (by rfl) (by intro W hW; go_simp; first | done | exact rfl) (by intro _ _ _ h; exact h) hS6 ?_
            try go_simp
            refine wpAnyH_tk (i := 12) rfl (by kernel_rfl) (by kernel_rfl) (by kernel_rfl) (by rfl) (by intro W hW; go_simp; first | done | exact rfl) (by intro _ _ _ h; exact h) hS6 ?_
            try go_simp
            refine wpAnyH_tk (i := 13) rfl (by kernel_rfl) (by kernel_rfl) (by kernel_rfl) (by rfl) (by intro W hW; go_simp; first | done | exact rfl) (by intro _ _ _ h; exact h) hS6 ?_
            try go_simp
            refine wpAnyH_tk (i := 14) rfl (by kernel_rfl) (by kernel_rfl) (by kernel_rfl) (by rfl) (by intro W hW; obtain ⟨q0, q1⟩ := HQ.out W (HS4.out.trans (hW.mono HS4.out.size)); go_simp; first | done | exact rfl) (by intro _ _ _ h; exact h) hS6 ?_
            try go_simp
            refine wpAnyH_tk (i := 16) rfl (by kernel_rfl) (by kernel_rfl) (by kernel_rfl) (by rfl) (by intro W hW; go_simp; first | done | exact rfl) (by intro _ _ _ h; exact h) hS6 ?_
            try go_simp
            refine wpAnyH_tk (i := 17) rfl (by kernel_rfl) (by kernel_rfl) (by kernel_rfl) (by rfl) (by intro W hW; go_simp; first | done | exact rfl) (by intro _ _ _ h; exact h) hS6 ?_
            try go_simp
            refine wpAnyH_one (i := 15) (by kernel_rfl) rfl (fun K hK => ?_)
            go_simp
            refine (cD.out _ (HS4.out.trans (hS6.mono HS4.out.size))).mono ?_
            rw [← HM.out]
            rintro e w7 ⟨rfl, hb7⟩
            have hS7 : Below w4.heap.size w4 w7 := hS6.trans (hb7.mono hS6.size)
            clear hb7 hS6
            go_simp
            refine hK _ _ ⟨hS7, ?_⟩; clear hK K
            try go_simp
            refine wpAnyH_tk (i := 18) rfl (by kernel_rfl) (by kernel_rfl) (by kernel_rfl) (by rfl) (by intro W hW; go_simp; first | done | exact rfl) (by intro _ _ _ h; exact h) hS7 ?_
            try go_simp
            refine wpAnyH_tk (i := 19) rfl (by kernel_rfl) (by kernel_rfl) (by kernel_rfl) (by rfl) (by intro W hW; go_simp; first | done | exact rfl) (by intro _ _ _ h; exact h) hS7 ?_
            try go_simp
            try go_simp
            refine wpAnyH_done (by kernel_rfl) ?_ _
            try go_simp
            have HB7 : Hid (Below w1.heap.size w1 w7) := Lib.hid (HWR.out _ (HS4.out.trans (hS7.mono HS4.out.size)))
            have HO7 := Lib.hid (own_keep HO.out (HS4.out.trans (hS7.mono HS4.out.size)))
            have hsrc := Lib.hid (sle_src (HWO.out.on hS7))
            clear hS7 cX cY cD
            go_wp2_with (first
              | (at_builtin; go_must (refine wpList_append_src _ rfl _ _ 28 rfl w1.heap.size 46 i0 (.agg #[.int .i64 0, .int .i64 0]) 2 16 Try.underlying28 hi0 hz0 hz1 hz2 rfl (by decide) (.slice A' k c') k (ls.flatMap cE) rfl HO7.out WA m5 wc4 (ns.flatMap cE) rfl hsrc.out (ent_cells _) (by unfold maxLen; omega) (by omega) HB7.out.size ?_)
                 intro v' w17 hown' hgrow3 hat3
                 obtain ⟨A7, c7', rfl, X1, X2⟩ := app_ent HB7.out HB7.out.size HO7.out hown' hgrow3
                 have XR := Lib.hid X1
                 have XB := Lib.hid X2
                 clear X1 X2 hown' hgrow3 hat3)
              | fail)
            go_roundw
            case rel => exact ⟨j + 1, k + m5, _, _, rfl, by go_num, by omega, by omega, Lib.hid ⟨by rw [HAS.out, List.length_append, ← HKL.out, ← HM.out], by rw [HAS.out]; exact XR.out, XB.out⟩⟩
            case measure => first | (simp [intOf]; done) | (simp [intOf]; omega)
          · obtain rfl : j = n := by omega
            have HEQ : Hid (l0.take j = l0) := Lib.hid (List.take_of_length_le (by have := HLL.out; omega))
            have pr := EP.out wr HBr.out
            have cA := Lib.hid (all_any FA fn fc fs QA j c l0 w.heap.size wr (HP.out wr HBr.out) (HSP.out wr HBr.out) (HBW.out wr HBr.out).size hn1)
            go_wp2_with fail
            refine cA.out.mono ?_
            rintro e w9 ⟨A9, k9, c9, rfl, hk9, hown9, hb9⟩
            have HB9 : Hid (Below w1.heap.size w1 w9) := Lib.hid (HBr.out.trans (hb9.mono HBr.out.size))
            obtain rfl : k9 = k := by have := HKL.out; rw [HEQ.out] at this; omega
            have hsl1 : SlE w9 w9.heap.size A9 k9 c9 (allM fs l0) := SlE.own hown9 (by omega)
            have hsl2 : SlE w9 w9.heap.size A' k9 c' (allM fs l0) := by have := SlE.own HO.out (by omega); rw [HEQ.out] at this; exact this.on hb9
            have cN := Lib.hid (rentries_same A9 A' k9 c9 c' (allM fs l0) w9 hsl1 hsl2 (by omega))
            clear hk9 hown9 hb9 hsl1 hsl2 cA pr
            go_wp2_with fail
            refine cN.out.mono ?_
            rintro e w10 ⟨rfl, hb10⟩
            have HB10 : Hid (Below w1.heap.size w1 w10) := Lib.hid (HB9.out.trans (hb10.mono HB9.out.size))
            clear hb10 cN
            go_wp2_with fail
            refine (cl.out _).mono ?_
            rintro e w11 ⟨rfl, hb11⟩
            have HB11 : Hid (Below w.heap.size w w11) := Lib.hid (HBW.out _ (HB10.out.trans (hb11.mono HB10.out.size)))
            clear hb11
            go_wp2_with fail
            go_ret
            exact ⟨rfl, HB11.out⟩
end Go.Proofs.Ytobmjnmcjddhcaa
