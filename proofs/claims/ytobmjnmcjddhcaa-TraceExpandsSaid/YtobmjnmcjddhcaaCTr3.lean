/-
  Tracebacks: the logical frames of a physical one, by the program.
-/
import Derived.Test.YtobmjnmcjddhcaaCTr2
import Derived.Shelf.Abstract
namespace Go.Proofs.Ytobmjnmcjddhcaa
open Go.RowKit
set_option linter.unusedSimpArgs false
set_option linter.unusedVariables false
attribute [local go_sem] Oper.semAt_some
theorem info_entry : (Try.prog.info? 46).map (fun i => (i.zero, i.size, i.bytes)) = some (some (.agg #[.int .i64 0, .int .i64 0]), 2, 16) := by kernel_rfl
def IsEnt (l : List (Int × Int)) (w : World) (e : Ending) (w' : World) : Prop := ∃ A k c, e = .returned (.slice A k c) ∧ k = l.length ∧ w'.ownsRow w.heap.size 46 2 (.slice A k c) k (l.flatMap cE) ∧ Below w.heap.size w w'
theorem two_cells (e : Int × Int) : ∀ u ∈ [Value.int .i64 e.1, Value.int .i64 e.2], u.oneCell' = true := by
  intro u hu
  simp at hu
  rcases hu with rfl | rfl <;> rfl
theorem kx_app {m og : Nat} {W w1 : World} {tmp : Obj} {v : Value} {k : Nat} {xs : List Value} (hbx : Boxed W og 28 v) (hrow : W.ownsRow m 46 2 v k xs) (hm : m ≤ W.heap.size) (hg : (W.alloc tmp).grownBy w1 v.ownBlock) (v' : Value) : Kx m og W (w1.setCell ⟨og, 0, none⟩ v') := by
  have hs := grownBy_setCell' w1 og v'
  have ha := World.grownBy_alloc W tmp none
  have hrn : ∀ j, v.ownBlock = some j → m ≤ j ∧ ∃ cs fz, W.heap[j]? = some (.cells cs 46 fz) := by
    rcases hrow.2 with ⟨rfl, _⟩ | ⟨g, cap, cur, rfl, hb, hgb, _⟩
    · intro j hj
      cases hj
    · intro j hj
      obtain rfl : g = j := by simpa [Value.ownBlock] using hj
      exact ⟨hb, cur, _, hgb⟩
  have all : ∀ j, j < W.heap.size → j ≠ og → v.ownBlock ≠ some j → (w1.setCell ⟨og, 0, none⟩ v').heap[j]? = W.heap[j]? := fun j hj hn ho =>
    (hs.block j (Nat.lt_of_lt_of_le (by simp; omega) hg.size) (fun e => hn (by injection e))).trans ((hg.block j (by simp; omega) (Ne.symm ho)).trans (ha.block j hj (by simp)))
  refine ⟨hs.os.trans (hg.os.trans ha.os), hs.tape.trans (hg.tape.trans ha.tape), hs.output.trans (hg.output.trans ha.output), Nat.le_trans (Nat.le_trans ha.size hg.size) hs.size, fun j h1 h2 => all j (by omega) h2 fun e => by have := (hrn j e).1; omega, fun j cs t fz hj ht hn => all j (Array.getElem?_eq_some_iff.1 hj).1 hn fun e => ?_⟩
  obtain ⟨_, cs', fz', he⟩ := hrn j e
  rw [hj] at he
  injection he with he
  injection he with _ he2 _
  exact ht he2
theorem entries_any (s : ByteArray) (b : Bool) (A0 : Option Addr) (n0 c0 : Nat) (A1 : Option Addr) (n1 c1 : Nat) (A2 : Option Addr) (n2 c2 : Nat) (A3 : Option Addr) (n3 c3 : Nat) (A4 : Option Addr) (n4 c4 : Nat) (A5 : Option Addr) (n5 c5 : Nat) (A6 : Option Addr) (n6 c6 : Nat) (A7 : Option Addr) (n7 c7 : Nat) (A8 : Option Addr) (n8 c8 : Nat) (f pc : Int) (w : World) : Calls Try.prog 20 #[.agg #[.string s, .bool b, .slice A0 n0 c0, .slice A1 n1 c1, .slice A2 n2 c2, .slice A3 n3 c3, .slice A4 n4 c4, .slice A5 n5 c5, .slice A6 n6 c6, .slice A7 n7 c7, .slice A8 n8 c8], .agg #[.int .i64 f, .int .i64 pc]] w fun e w' => e = .returned (.func (.func 23) #[] #[.pointer (some ⟨w.heap.size, 0, none⟩), .pointer (some ⟨w.heap.size + 1, 0, none⟩)]) ∧ w' = (w.alloc (.cells #[.string s, .bool b, .slice A0 n0 c0, .slice A1 n1 c1, .slice A2 n2 c2, .slice A3 n3 c3, .slice A4 n4 c4, .slice A5 n5 c5, .slice A6 n6 c6, .slice A7 n7 c7, .slice A8 n8 c8] 42)).alloc (.cells #[.int .i64 f, .int .i64 pc] 31) := by
  go_enter Try.func20, Try.ntmps20
  go_wp2_with fail
  go_ret
  exact ⟨rfl, rfl⟩
set_option maxRecDepth 100000 in
set_option maxHeartbeats 32000000 in
theorem expand_in (s : ByteArray) (b : Bool) (A0 : Option Addr) (n0 c0 : Nat) (A1 : Option Addr) (n1 c1 : Nat) (A2 : Option Addr) (n2 c2 : Nat) (A3 : Option Addr) (n3 c3 : Nat) (A4 : Option Addr) (n4 c4 : Nat) (A5 : Option Addr) (n5 c5 : Nat) (A6 : Option Addr) (n6 c6 : Nat) (A7 : Option Addr) (n7 c7 : Nat) (A8 : Option Addr) (n8 c8 : Nat) (x : DFunc) (bk off fn fc f pc : Nat) (w : World) (hbk : bk < w.heap.size) (hcf : ∀ (j : Nat) (u : Value), [.string s, .bool b, .slice A0 n0 c0, .slice A1 n1 c1, .slice A2 n2 c2, .slice A3 n3 c3, .slice A4 n4 c4, .slice A5 n5 c5, .slice A6 n6 c6, .slice A7 n7 c7, .slice A8 n8 c8][j]? = some u → w.cell? ⟨bk, off + f * 11 + j, none⟩ = some u) (hfw : FnW w w.heap.size s b A0 n0 c0 A1 n1 c1 A2 n2 c2 A3 n3 c3 A4 n4 c4 A5 n5 c5 A6 n6 c6 A7 n7 c7 A8 n8 c8 x) (hcan : canOk x) (hf : f < fn) (hfn : fn ≤ 50) (hpc : pc < n4) :
    Calls Try.prog 10 #[.agg #[.slice (some ⟨bk, off, none⟩) fn fc], .agg #[.int .i64 (f : Int), .int .i64 (pc : Int)]] w (IsEnt (expM x (f : Int) pc) w) := by
  obtain ⟨w1, hw1⟩ : ∃ X, w.alloc (.cells #[.slice (some ⟨bk, off, none⟩) fn fc] 24) = X := ⟨_, rfl⟩
  obtain ⟨g1, hg1⟩ : ∃ X, w.heap.size = X := ⟨_, rfl⟩
  have hb1 : Below w.heap.size w w1 := by rw [← hw1]; exact bl_one _
  have hc1 : Cells w1 g1 [.slice (some ⟨bk, off, none⟩) fn fc] := by rw [← hw1, ← hg1]; exact Cells.new w [.slice (some ⟨bk, off, none⟩) fn fc] _
  have hs1 : w1.heap.size = g1 + 1 := by rw [← hw1, ← hg1]; simp
  obtain ⟨w2, hw2⟩ : ∃ X, w1.alloc (.cells #[.int .i64 (f : Int), .int .i64 (pc : Int)] 31) = X := ⟨_, rfl⟩
  have hb2 : Below w1.heap.size w1 w2 := by rw [← hw2]; exact bl_one _
  have hc2 : Cells w2 (g1 + 1) [.int .i64 (f : Int), .int .i64 (pc : Int)] := by rw [← hw2, ← hs1]; exact Cells.new w1 [.int .i64 (f : Int), .int .i64 (pc : Int)] _
  have hs2 : w2.heap.size = g1 + 1 + 1 := by rw [← hw2, ← hs1]; simp
  obtain ⟨w3, hw3⟩ : ∃ X, w2.alloc (.cells #[.string s, .bool b, .slice A0 n0 c0, .slice A1 n1 c1, .slice A2 n2 c2, .slice A3 n3 c3, .slice A4 n4 c4, .slice A5 n5 c5, .slice A6 n6 c6, .slice A7 n7 c7, .slice A8 n8 c8] 42) = X := ⟨_, rfl⟩
  have hb3 : Below w2.heap.size w2 w3 := by rw [← hw3]; exact bl_one _
  have hc3 : Cells w3 (g1 + 1 + 1) [.string s, .bool b, .slice A0 n0 c0, .slice A1 n1 c1, .slice A2 n2 c2, .slice A3 n3 c3, .slice A4 n4 c4, .slice A5 n5 c5, .slice A6 n6 c6, .slice A7 n7 c7, .slice A8 n8 c8] := by rw [← hw3, ← hs2]; exact Cells.new w2 [.string s, .bool b, .slice A0 n0 c0, .slice A1 n1 c1, .slice A2 n2 c2, .slice A3 n3 c3, .slice A4 n4 c4, .slice A5 n5 c5, .slice A6 n6 c6, .slice A7 n7 c7, .slice A8 n8 c8] _
  have hs3 : w3.heap.size = g1 + 1 + 1 + 1 := by rw [← hw3, ← hs2]; simp
  obtain ⟨w4, hw4⟩ : ∃ X, w3.alloc (.cells #[.slice none 0 0] 28) = X := ⟨_, rfl⟩
  have hb4 : Below w3.heap.size w3 w4 := by rw [← hw4]; exact bl_one _
  have hs4 : w4.heap.size = g1 + 1 + 1 + 1 + 1 := by rw [← hw4, ← hs3]; simp
  have hbx4 : Boxed w4 (g1 + 1 + 1 + 1) 28 (.slice none 0 0) := by rw [← hw4, ← hs3]; exact Boxed.new _ _ _
  obtain ⟨w5, hw5⟩ : ∃ X, w4.alloc (.cells #[.string s, .bool b, .slice A0 n0 c0, .slice A1 n1 c1, .slice A2 n2 c2, .slice A3 n3 c3, .slice A4 n4 c4, .slice A5 n5 c5, .slice A6 n6 c6, .slice A7 n7 c7, .slice A8 n8 c8] 42) = X := ⟨_, rfl⟩
  have hb5 : Below w4.heap.size w4 w5 := by rw [← hw5]; exact bl_one _
  have hc5 : Cells w5 (g1 + 1 + 1 + 1 + 1) [.string s, .bool b, .slice A0 n0 c0, .slice A1 n1 c1, .slice A2 n2 c2, .slice A3 n3 c3, .slice A4 n4 c4, .slice A5 n5 c5, .slice A6 n6 c6, .slice A7 n7 c7, .slice A8 n8 c8] := by rw [← hw5, ← hs4]; exact Cells.new w4 [.string s, .bool b, .slice A0 n0 c0, .slice A1 n1 c1, .slice A2 n2 c2, .slice A3 n3 c3, .slice A4 n4 c4, .slice A5 n5 c5, .slice A6 n6 c6, .slice A7 n7 c7, .slice A8 n8 c8] _
  have hs5 : w5.heap.size = g1 + 1 + 1 + 1 + 1 + 1 := by rw [← hw5, ← hs4]; simp
  obtain ⟨w6, hw6⟩ : ∃ X, w5.alloc (.cells #[.int .i64 (f : Int), .int .i64 (pc : Int)] 31) = X := ⟨_, rfl⟩
  have hb6 : Below w5.heap.size w5 w6 := by rw [← hw6]; exact bl_one _
  have hc6 : Cells w6 (g1 + 1 + 1 + 1 + 1 + 1) [.int .i64 (f : Int), .int .i64 (pc : Int)] := by rw [← hw6, ← hs5]; exact Cells.new w5 [.int .i64 (f : Int), .int .i64 (pc : Int)] _
  have hs6 : w6.heap.size = g1 + 1 + 1 + 1 + 1 + 1 + 1 := by rw [← hw6, ← hs5]; simp
  have hb02 : Below w.heap.size w w2 := hb1.trans (hb2.mono hb1.size)
  have hb46 : Below w4.heap.size w4 w6 := hb5.trans (hb6.mono hb5.size)
  have hb24 : Below w2.heap.size w2 w4 := hb3.trans (hb4.mono hb3.size)
  have hb26 : Below w2.heap.size w2 w6 := hb24.trans (hb46.mono hb24.size)
  have hb06 : Below w.heap.size w w6 := hb02.trans (hb26.mono hb02.size)
  have hbx6 : Boxed w6 (g1 + 1 + 1 + 1) 28 (.slice none 0 0) := by rw [← hw6, ← hw5]; exact (hbx4.alloc _).alloc _
  have hcc5 := hc5.on hb6
  have hcc3 := hc3.on hb4
  have p0 := (hc1.on hb2).at_ 0 _ rfl
  have p4 := ((hc1.on hb2).on hb24).at_ 0 _ rfl
  have y0 := (hb02.cell (p := ⟨bk, off + f * 11 + 0, none⟩) hbk).trans (hcf 0 _ rfl)
  have y1 := (hb02.cell (p := ⟨bk, off + f * 11 + 1, none⟩) hbk).trans (hcf 1 _ rfl)
  have y2 := (hb02.cell (p := ⟨bk, off + f * 11 + 2, none⟩) hbk).trans (hcf 2 _ rfl)
  have y3 := (hb02.cell (p := ⟨bk, off + f * 11 + 3, none⟩) hbk).trans (hcf 3 _ rfl)
  have y4 := (hb02.cell (p := ⟨bk, off + f * 11 + 4, none⟩) hbk).trans (hcf 4 _ rfl)
  have y5 := (hb02.cell (p := ⟨bk, off + f * 11 + 5, none⟩) hbk).trans (hcf 5 _ rfl)
  have y6 := (hb02.cell (p := ⟨bk, off + f * 11 + 6, none⟩) hbk).trans (hcf 6 _ rfl)
  have y7 := (hb02.cell (p := ⟨bk, off + f * 11 + 7, none⟩) hbk).trans (hcf 7 _ rfl)
  have y8 := (hb02.cell (p := ⟨bk, off + f * 11 + 8, none⟩) hbk).trans (hcf 8 _ rfl)
  have y9 := (hb02.cell (p := ⟨bk, off + f * 11 + 9, none⟩) hbk).trans (hcf 9 _ rfl)
  have y10 := (hb02.cell (p := ⟨bk, off + f * 11 + 10, none⟩) hbk).trans (hcf 10 _ rfl)
  simp only [Nat.add_zero] at y0
  have e0 := hcc3.at_ 0 _ rfl
  have e1 := hcc3.at_ 1 _ rfl
  have e2 := hcc3.at_ 2 _ rfl
  have e3 := hcc3.at_ 3 _ rfl
  have e4 := hcc3.at_ 4 _ rfl
  have e5 := hcc3.at_ 5 _ rfl
  have e6 := hcc3.at_ 6 _ rfl
  have e7 := hcc3.at_ 7 _ rfl
  have e8 := hcc3.at_ 8 _ rfl
  have e9 := hcc3.at_ 9 _ rfl
  have e10 := hcc3.at_ 10 _ rfl
  have d0 := hc2.at_ 0 _ rfl
  have d1 := (hc2.on hb3).at_ 1 _ rfl
  have q0 := (hc2.on hb24).at_ 0 _ rfl
  have q1 := (hc2.on hb24).at_ 1 _ rfl
  have e6' := hc3.at_ 6 _ rfl
  obtain ⟨s4, s5, s6, s7, s8, s0⟩ := hfw.sm
  have hf0 : (0 : Int) ≤ (f : Int) := by omega
  have hf1 : (f : Int) < (fn : Int) := by omega
  have hp0 : (0 : Int) ≤ (pc : Int) := by omega
  have hp1 : (pc : Int) < (n4 : Int) := by omega
  have t0 : decide ((f : Int) < 0) = false := by rw [decide_eq_false_iff_not]; omega
  have t0b : decide (f < 0) = false := by rw [decide_eq_false_iff_not]; omega
  have t1 : decide ((f : Int) ≥ (fn : Int)) = false := by rw [decide_eq_false_iff_not]; omega
  have t1b : decide (fn ≤ f) = false := by rw [decide_eq_false_iff_not]; omega
  have t2 : decide ((pc : Int) < 0) = false := by rw [decide_eq_false_iff_not]; omega
  have t2b : decide (pc < 0) = false := by rw [decide_eq_false_iff_not]; omega
  have t3 : decide ((pc : Int) ≥ (n4 : Int)) = false := by rw [decide_eq_false_iff_not]; omega
  have t3b : decide (n4 ≤ pc) = false := by rw [decide_eq_false_iff_not]; omega
  have cE := Lib.hid (entries_any s b A0 n0 c0 A1 n1 c1 A2 n2 c2 A3 n3 c3 A4 n4 c4 A5 n5 c5 A6 n6 c6 A7 n7 c7 A8 n8 c8 (f : Int) (pc : Int) w4)
  rw [hw5, hw6, hs4] at cE
  have HFW := Lib.hid hfw
  have HX6 := Lib.hid hbx6
  have HB06 := Lib.hid hb06
  have HC5 := Lib.hid hcc5
  have HC6 := Lib.hid hc6
  have HS6 := Lib.hid hs6
  have HG := Lib.hid hg1
  clear hb1 hb2 hb3 hb4 hb5 hb6 hc1 hc2 hc3 hc5 hc6 hb02 hb46 hb24 hb26 hb06 hbx4 hbx6 hcc5 hcc3 hcf hfw
  refine (callsIn_wide (n := 5)).1 ?_
  refine callsIn_of_wp_marks Try.func10 rfl trivial ?_ rfl
  simp only [Try.ntmps10, List.size_toArray, List.length_cons, List.length_nil, Nat.reduceAdd, Nat.reduceSub, Array.replicate_succ, Array.replicate_zero, List.push_toArray, List.append_toArray, List.nil_append, List.cons_append]
  gi_wp2_with (refine ⟨trivial, ?_⟩; gi_at_call 20; refine (callsIn_wide.2 cE.out).mono ?_; rintro e w' ⟨rfl, rfl⟩)
  clear cE y0 y1 y2 y3 y4 y5 y6 y7 y8 y9 y10 e0 e1 e2 e3 e4 e5 e6 e7 e8 e9 e10 d0 d1 q0 q1 e6' p0 p4 t0 t0b t1 t1b t2 t2b t3 t3b hw1 hw2 hw3 hw4 hw5 hw6 hs1 hs2 hs3 hs4 hs5 hs6 hg1
  obtain ⟨i0, hi, hz0, hz1, hz2⟩ := info_parts info_entry
  have HSQ : Hid (SeqStopsK Fence.wide (5 - 1) Try.prog 23 #[.pointer (some ⟨g1 + 1 + 1 + 1 + 1, 0, none⟩), .pointer (some ⟨g1 + 1 + 1 + 1 + 1 + 1, 0, none⟩)] (fun e : Int × Int => #[Value.agg #[.int .i64 e.1, .int .i64 e.2]]) (Kx w'.heap.size (g1 + 1 + 1 + 1)) (fun ys => ys = expM x (f : Int) pc) (fun pre => pre <+: expM x (f : Int) pc) (expM x (f : Int) pc).length w') := Lib.hid fun l J Jx W hW hAJ hAJx hY h0 =>
    ent1_in (5 - 1) (by omega) l _ _ w.heap.size w'.heap.size (g1 + 1 + 1 + 1) s b A0 n0 c0 A1 n1 c1 A2 n2 c2 A3 n3 c3 A4 n4 c4 A5 n5 c5 A6 n6 c6 A7 n7 c7 A8 n8 c8 x (f : Int) pc J Jx (by have := HG.out; have := HS6.out; omega) (by have := HG.out; omega) (by have := HS6.out; omega) (by have := HS6.out; omega) (by omega) (by omega) (by have := HS6.out; omega)
      (fun s A B hs hb => hAJ s A B none hs ⟨hb.os, hb.tape, hb.output, hb.size, fun k hk _ => hb.block k hk⟩ (fun r e => by cases e))
      hY W hW.size (HFW.out.keep (HB06.out.trans (hW.mono HB06.out.size))) hcan hpc (HC5.out.on hW) (HC6.out.on hW) h0
  have hlen20 : Hid ((expM x (f : Int) pc).length ≤ 21) := Lib.hid (by
    have l6 := HFW.out.r6.1
    unfold expM
    split
    · simp
    · rw [entM_len]
      exact Nat.le_trans (upM_len _ _ _) (by omega))
  refine wpIn_rangeFunc_ownH rfl (by omega) (gf := 23) (lb := #[.pointer (some ⟨g1 + 1 + 1 + 1 + 1, 0, none⟩), .pointer (some ⟨g1 + 1 + 1 + 1 + 1 + 1, 0, none⟩)]) rfl trivial (enters_of Try.func23 (by kernel_rfl) rfl)
    HSQ.out (fun h k => Kx.trans h k) (fun W l o o' => Kx.putObj (Nat.le_refl _) W l o o') (Below.refl _ _) (fun _ => rfl)
    (fun pre W => ((∃ v, Boxed W (g1 + 1 + 1 + 1) 28 v ∧ W.ownsRow w'.heap.size 46 2 v pre.length (pre.flatMap cE) ∧ True) ∧ Below w.heap.size w W) ∧ w'.heap.size ≤ W.heap.size)
    (fun _ _ _ => False)
    (OwnFrom.and (OwnFrom.and (Own.from (holdsRow_own w'.heap.size (g1 + 1 + 1 + 1) 28 46 2 List.length (fun pre => pre.flatMap cE) (fun _ _ => True)) _) (ownFrom_below (Nat.le_refl _) (by have := HG.out; have := HS6.out; omega))) (fun _ _ _ _ hs hg _ => Nat.le_trans hs hg.size))
    (fun _ _ _ _ _ hs _ _ => hs)
    ⟨⟨⟨.slice none 0 0, HX6.out, ⟨rfl, .inl ⟨rfl, rfl⟩⟩, trivial⟩, HB06.out⟩, Nat.le_refl _⟩
    (fun x a' W => ∃ eb, W.heap[eb]? = some (.cells #[.int .i64 x.1, .int .i64 x.2] 46 (0, 0)) ∧ a' = { tmps := #[.agg #[.slice (some ⟨bk, off, none⟩) fn fc], .agg #[.int .i64 (f : Int), .int .i64 (pc : Int)], .pointer (some ⟨g1, 0, none⟩), .pointer (some ⟨g1 + 1, 0, none⟩), .slice none 0 0, .pointer (some ⟨g1 + 1 + 1, 0, none⟩), .pointer (some ⟨g1 + 1 + 1 + 1, 0, none⟩), .pointer (some ⟨eb, 0, none⟩), .pointer (some ⟨g1 + 1, 0, none⟩), .int .i64 (f : Int), .bool false, .bool false, .pointer (some ⟨g1 + 1, 0, none⟩), .int .i64 (f : Int), .pointer (some ⟨g1, 0, none⟩), .slice (some ⟨bk, off, none⟩) fn fc, .int .i64 (fn : Int), .bool false, .bool false, .pointer (some ⟨g1, 0, none⟩), .slice (some ⟨bk, off, none⟩) fn fc, .pointer (some ⟨g1 + 1, 0, none⟩), .int .i64 (f : Int), .pointer (some ⟨bk, off + f * 11, none⟩), .agg #[.string s, .bool b, .slice A0 n0 c0, .slice A1 n1 c1, .slice A2 n2 c2, .slice A3 n3 c3, .slice A4 n4 c4, .slice A5 n5 c5, .slice A6 n6 c6, .slice A7 n7 c7, .slice A8 n8 c8], .pointer (some ⟨g1 + 1, 1, none⟩), .int .i64 (pc : Int), .bool false, .bool false, .pointer (some ⟨g1 + 1, 1, none⟩), .int .i64 (pc : Int), .pointer (some ⟨g1 + 1 + 1, 6, none⟩), .slice A4 n4 c4, .int .i64 (n4 : Int), .bool false, .bool false, .agg #[.string s, .bool b, .slice A0 n0 c0, .slice A1 n1 c1, .slice A2 n2 c2, .slice A3 n3 c3, .slice A4 n4 c4, .slice A5 n5 c5, .slice A6 n6 c6, .slice A7 n7 c7, .slice A8 n8 c8], .agg #[.int .i64 (f : Int), .int .i64 (pc : Int)], .func (.func 23) #[] #[.pointer (some ⟨g1 + 1 + 1 + 1 + 1, 0, none⟩), .pointer (some ⟨g1 + 1 + 1 + 1 + 1 + 1, 0, none⟩)], .agg #[.int .i64 x.1, .int .i64 x.2], undef, undef, undef, undef, undef], defers := [] })
    (fun x a' _ X Y row hs hg hr => by
      obtain ⟨eb, e1, e2⟩ := hs
      refine ⟨eb, (hg.block eb (Array.getElem?_eq_some_iff.1 e1).1 fun e => ?_).trans e1, e2⟩
      obtain ⟨_, o, ho, hc⟩ := hr eb e.symm
      rw [e1] at ho
      injection ho with ho
      subst ho
      cases hc)
    ?assign ?body ?done ?stop
  case assign =>
    rintro l pre x W K ⟨⟨⟨v, hbx, hrow, -⟩, hbw⟩, hsz⟩ hK
    gi_wp2
    exact hK _ _ ((KeepsOthers.alloc _ _).from _) (Kx.ofBelow hsz (bl_one _)) ⟨⟨⟨v, hbx.alloc _, hrow.alloc _, trivial⟩, hbw.alloc hbw.size _⟩, by simp; omega⟩ ⟨W.heap.size, World.alloc_heap_new W _, rfl⟩
  case body =>
    rintro l pre x a' W hl ⟨r, hr⟩ ⟨⟨⟨v, hbx, hrow, -⟩, hbw⟩, hsz⟩ ⟨eb, heb, rfl⟩ hlen
    obtain ⟨A', c', rfl, _⟩ := own_form hrow
    have cB := hbx.cell
    have fB := hbx.frozen
    have k0 : W.cell? ⟨eb, 0, none⟩ = some (.int .i64 x.1) := by simp [World.cell?, heb]
    have k1 : W.cell? ⟨eb, 1, none⟩ = some (.int .i64 x.2) := by simp [World.cell?, heb]
    have hpl : pre.length ≤ 21 := by have := hlen20.out; omega
    have HBX := Lib.hid hbx
    have HRW := Lib.hid hrow
    have HBW := Lib.hid hbw
    clear hbx hbw heb hr
    gi_wp2_with (first
      | (gi_at_builtin; refine wpListIn_append_own _ rfl _ _ 28 rfl w'.heap.size 46 i0 (.agg #[.int .i64 0, .int .i64 0]) 2 16 Try.underlying28 hi hz0 hz1 hz2 rfl (by decide) _ _ _ rfl (hrow.alloc _) ⟨W.heap.size, 0, none⟩ 1 1 [.int .i64 x.1, .int .i64 x.2] rfl rfl ?c1 ?c2 ?c3 ?c4 ?c5 ?_)
      | gi_in)
    case c1 =>
      intro j u hj
      match j, hj with
      | 0, hj => simp at hj; subst hj; simp [Addr.add]
      | 1, hj => simp at hj; subst hj; simp [Addr.add]
    case c2 => exact two_cells _
    case c3 => unfold maxLen; omega
    case c4 => omega
    case c5 => simp; omega
    intro v' w2 hown' hgrow _
    obtain ⟨A2, k2, rfl, _⟩ := own_form hown'
    obtain ⟨hv1, hset, hrow', hkeep, hbel⟩ := Boxed.appended HBX.out (by decide) (own_less HRW.out (by have := HBW.out.size; have := HB06.out.size; omega)) HBW.out.size (by have := HG.out; omega) (own_less hown' (by have := HB06.out.size; omega)) hgrow
    have hKX := kx_app HBX.out HRW.out hsz hgrow (.slice A2 (pre.length + 1) k2)
    have hrow2 : (w2.setCell ⟨g1 + 1 + 1 + 1, 0, none⟩ (.slice A2 (pre.length + 1) k2)).ownsRow w'.heap.size 46 2 (.slice A2 (pre.length + 1) k2) (pre.length + 1) (pre.flatMap cE ++ [.int .i64 x.1, .int .i64 x.2]) := hown'.kept (grownBy_setCell' w2 (g1 + 1 + 1 + 1) _) (.inr (hv1.not_row (by decide) hown').symm)
    have c2' := hv1.cell
    have f2' := hv1.frozen
    clear hown' hgrow hv1 cB fB k0 k1
    gi_wp2
    refine ⟨hkeep.from _, hKX, ⟨⟨.slice A2 (pre.length + 1) k2, hset, ?_, trivial⟩, HBW.out.trans hbel⟩, Nat.le_trans hsz hkeep.size⟩
    have e1 : (pre ++ [x]).length = pre.length + 1 := by simp
    have e2 : (pre ++ [x]).flatMap cE = pre.flatMap cE ++ [.int .i64 x.1, .int .i64 x.2] := by simp [cE]
    rw [e1, e2]
    exact hrow2
  case done =>
    rintro D ys W hD rfl ⟨⟨⟨v, hbx, hrow, -⟩, hbw⟩, hsz⟩ hK
    obtain ⟨A', c', rfl, _⟩ := own_form hrow
    have cB := hbx.cell
    gi_wp2
    refine ⟨by simp, .inl ⟨_, _, rfl, run_takeDeferred hK, ?_⟩⟩
    refine ⟨.slice A' (expM x (f : Int) pc).length c', ?_, ⟨A', _, c', rfl, rfl, own_less (ownsRow_putObj hrow _ hK rfl) (by have := HB06.out.size; omega), hbw.trans (belowK_b (w := w) (Nat.le_refl _) _ D _ _ (by have := HB06.out.size; omega) hK rfl rfl)⟩⟩
    simp [results, Try.f10, go_sem]
  case stop =>
    rintro D c pre W _ _ h _
    exact h.elim
end Go.Proofs.Ytobmjnmcjddhcaa
