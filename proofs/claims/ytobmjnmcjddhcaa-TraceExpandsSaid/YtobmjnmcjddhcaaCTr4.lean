/-
  Tracebacks: the chapter's example holds.
-/
import Derived.Test.YtobmjnmcjddhcaaCTr3
namespace Go.Proofs.Ytobmjnmcjddhcaa
open Go.RowKit
set_option linter.unusedSimpArgs false
set_option linter.unusedVariables false
theorem ent_at {w : World} {base k c : Nat} {A : Option Addr} {l : List (Int × Int)} (h : w.ownsRow base 46 2 (.slice A k c) k (l.flatMap cE)) (hk : k ≤ 100000) {j : Nat} (hj : j < k) : ∃ b off e, A = some ⟨b, off, none⟩ ∧ b < w.heap.size ∧ l[j]? = some e ∧ w.cell? ⟨b, off + j * 2, none⟩ = some (.int .i64 e.1) ∧ w.cell? ⟨b, off + j * 2 + 1, none⟩ = some (.int .i64 e.2) := by
  obtain ⟨b, off, e, cs, hA, hb, he, _, hc, hr⟩ := SlR.at_ (SlR.of_ownN (sz := 2) (bytes := 16) (f := cE) (fun _ => rfl) (by omega) h (by unfold reachBytes; omega)) hj
  unfold RC at hr
  subst hr
  exact ⟨b, off, e, hA, hb, he, by simpa using hc 0 _ rfl, by simpa [Nat.add_assoc] using hc 1 _ rfl⟩
theorem ent_two {w : World} {base c : Nat} {A : Option Addr} {u v x y : Int} (h : w.ownsRow base 46 2 (.slice A 2 c) 2 ([(u, v), (x, y)].flatMap cE)) : ∃ b off, A = some ⟨b, off, none⟩ ∧ w.cell? ⟨b, off, none⟩ = some (.int .i64 u) ∧ w.cell? ⟨b, off + 1, none⟩ = some (.int .i64 v) ∧ w.cell? ⟨b, off + 2, none⟩ = some (.int .i64 x) ∧ w.cell? ⟨b, off + 2 + 1, none⟩ = some (.int .i64 y) := by
  obtain ⟨b, off, e, hA, _, he, c0, c1⟩ := ent_at h (by omega) (j := 0) (by omega)
  obtain ⟨b', off', e', hA', _, he', c2, c3⟩ := ent_at h (by omega) (j := 1) (by omega)
  rw [hA] at hA'
  injection hA' with hA'
  injection hA' with e1 e2
  subst e1
  subst e2
  injection he with he
  injection he' with he'
  subst he
  subst he'
  exact ⟨b, off, hA, by simpa using c0, by simpa using c1, by simpa using c2, by simpa using c3⟩
/-- The function of the example: a body, put in. -/
def xi : DFunc := ⟨⟨#[102]⟩, false, [], [], [], [], [⟨33, 1⟩, ⟨34, 1⟩, ⟨25, 0⟩], [1, 2, 1], [⟨-1, 0, 0, 0, 0, 0, 0⟩, ⟨0, 1, 1, 0, 0, 0, 2⟩], [0, 1, 0], [⟨0, 0, 0, 0⟩, ⟨0, 0, 0, 0⟩, ⟨0, 0, 0, 0⟩]⟩
theorem xi_exp : expM xi ((0 : Nat) : Int) 1 = [(1, 2), (0, 1)] := by
  unfold expM ndM
  simp [xi, upM, entM, fnAt, lnAt]
theorem xi_can : canOk xi where
  some_ := by simp [xi]
  ins := by
    intro i hi
    simp [xi] at hi
    rcases hi with rfl | rfl | rfl <;> simp [instrOk, opndM, mostM]
  lines := by simp [xi]
  tab := by
    refine .inr ⟨⟨by simp [xi], by simp [xi], fun i x hx => ?_⟩, by simp [xi], by simp [xi], ?_⟩
    · match i, hx with
      | 0, hx => simp [xi] at hx; subst hx; simp [nodeOk]
      | 1, hx => simp [xi] at hx; subst hx; simp [nodeOk]
    · intro u hu
      simp [xi] at hu
      rcases hu with rfl | rfl | rfl <;> simp [xi]
theorem sl_three {W : World} {b : Nat} {u v z : Int} (h : Cells W b [.int .i64 u, .int .i64 v, .int .i64 z]) : SlI W W.heap.size (some ⟨b, 0, none⟩) 3 3 [u, v, z] :=
  slr_of_cells (f := fun x : Int => [Value.int .i64 x]) (xs := [u, v, z]) (fun _ => rfl) h rfl h.lt (by unfold maxLen; omega) (by unfold reachBytes; omega)
theorem xi_w {W : World} {g : Nat} (h1 : Cells W (g + 1) [.int .i64 33, .int .i64 1, .int .i64 34, .int .i64 1, .int .i64 25, .int .i64 0]) (h2 : Cells W (g + 2) [.int .i64 1, .int .i64 2, .int .i64 1]) (h3 : Cells W (g + 3) [.int .i64 (-1), .int .i64 0, .int .i64 0, .int .i64 0, .int .i64 0, .int .i64 0, .int .i64 0, .int .i64 0, .int .i64 1, .int .i64 1, .int .i64 0, .int .i64 0, .int .i64 0, .int .i64 2]) (h4 : Cells W (g + 4) [.int .i64 0, .int .i64 1, .int .i64 0]) (h5 : Cells W (g + 5) ((List.replicate 3 zW).flatMap cW)) :
    FnW W W.heap.size ⟨#[102]⟩ false none 0 0 none 0 0 none 0 0 none 0 0 (some ⟨g + 1, 0, none⟩) 3 3 (some ⟨g + 2, 0, none⟩) 3 3 (some ⟨g + 3, 0, none⟩) 2 2 (some ⟨g + 4, 0, none⟩) 3 3 (some ⟨g + 5, 0, none⟩) 3 3 xi where
  nm := by decide
  r0 := SlR.nil_ W _
  r1 := SlR.nil_ W _
  r2 := SlR.nil_ W _
  r3 := SlR.nil_ W _
  r4 := slr_of_cells (f := cellsI) (xs := [⟨33, 1⟩, ⟨34, 1⟩, ⟨25, 0⟩]) (fun _ => rfl) h1 rfl h1.lt (by unfold maxLen; omega) (by unfold reachBytes; omega)
  r5 := sl_three h2
  r6 := slr_of_cells (f := cellsN) (xs := [⟨-1, 0, 0, 0, 0, 0, 0⟩, ⟨0, 1, 1, 0, 0, 0, 2⟩]) (fun _ => rfl) h3 rfl h3.lt (by unfold maxLen; omega) (by unfold reachBytes; omega)
  r7 := sl_three h4
  r8 := slr_of_cells (f := cellsS) (xs := [⟨0, 0, 0, 0⟩, ⟨0, 0, 0, 0⟩, ⟨0, 0, 0, 0⟩]) (fun _ => rfl) (by exact h5) rfl h5.lt (by unfold maxLen; omega) (by unfold reachBytes; omega)
  sm := by omega
def IsInl (w : World) (e : Ending) (w' : World) : Prop := ∃ g gb, e = .returned (.agg #[.slice (some ⟨gb, 0, none⟩) 2 2]) ∧ gb < w'.heap.size ∧ (∀ (j : Nat) (u : Value), [.string ⟨#[102]⟩, .bool false, .slice none 0 0, .slice none 0 0, .slice none 0 0, .slice none 0 0, .slice (some ⟨g + 1, 0, none⟩) 3 3, .slice (some ⟨g + 2, 0, none⟩) 3 3, .slice (some ⟨g + 3, 0, none⟩) 2 2, .slice (some ⟨g + 4, 0, none⟩) 3 3, .slice (some ⟨g + 5, 0, none⟩) 3 3][j]? = some u → w'.cell? ⟨gb, 0 + 0 * 11 + j, none⟩ = some u) ∧ FnW w' w'.heap.size ⟨#[102]⟩ false none 0 0 none 0 0 none 0 0 none 0 0 (some ⟨g + 1, 0, none⟩) 3 3 (some ⟨g + 2, 0, none⟩) 3 3 (some ⟨g + 3, 0, none⟩) 2 2 (some ⟨g + 4, 0, none⟩) 3 3 (some ⟨g + 5, 0, none⟩) 3 3 xi ∧ Below w.heap.size w w'
set_option maxRecDepth 100000 in
set_option maxHeartbeats 16000000 in
theorem inlined_any (w : World) : Calls Try.prog 17 #[] w (IsInl w) := by
  obtain ⟨zc, hzc, hmk⟩ := made_set 3 (by omega)
  have hmk3 : ∀ W, (Instr.makeSlice 40 (.int .i64 3) (.int .i64 3)).run Try.prog W = .ok (.slice (some ⟨W.heap.size, 0, none⟩) 3 3) (W.alloc (.cells zc 95)) := hmk
  clear hmk
  obtain ⟨g, hg⟩ : ∃ g, w.heap.size = g := ⟨_, rfl⟩
  obtain ⟨w1, hw1⟩ : ∃ X, w.alloc (.cells #[.slice none 0 0] 24) = X := ⟨_, rfl⟩
  have hb1 : Below w.heap.size w w1 := by rw [← hw1]; exact bl_one _
  have hs1 : w1.heap.size = g + 1 := by rw [← hw1, ← hg]; simp
  have hc1 : Cells w1 g [.slice none 0 0] := by rw [← hw1, ← hg]; exact Cells.new w [.slice none 0 0] _
  obtain ⟨w2, hw2⟩ : ∃ X, w1.alloc (.cells #[.int .i64 33, .int .i64 1, .int .i64 34, .int .i64 1, .int .i64 25, .int .i64 0] 65) = X := ⟨_, rfl⟩
  have hb2 : Below w1.heap.size w1 w2 := by rw [← hw2]; exact bl_one _
  have hs2 : w2.heap.size = g + 2 := by rw [← hw2]; simp [hs1]
  have hc2 : Cells w2 (g + 1) [.int .i64 33, .int .i64 1, .int .i64 34, .int .i64 1, .int .i64 25, .int .i64 0] := by rw [← hw2, ← hs1]; exact Cells.new w1 [.int .i64 33, .int .i64 1, .int .i64 34, .int .i64 1, .int .i64 25, .int .i64 0] _
  obtain ⟨w3, hw3⟩ : ∃ X, w2.alloc (.cells #[.int .i64 1, .int .i64 2, .int .i64 1] 3) = X := ⟨_, rfl⟩
  have hb3 : Below w2.heap.size w2 w3 := by rw [← hw3]; exact bl_one _
  have hs3 : w3.heap.size = g + 3 := by rw [← hw3]; simp [hs2]
  have hc3 : Cells w3 (g + 2) [.int .i64 1, .int .i64 2, .int .i64 1] := by rw [← hw3, ← hs2]; exact Cells.new w2 [.int .i64 1, .int .i64 2, .int .i64 1] _
  obtain ⟨w4, hw4⟩ : ∃ X, w3.alloc (.cells #[.int .i64 (-1), .int .i64 0, .int .i64 0, .int .i64 0, .int .i64 0, .int .i64 0, .int .i64 0, .int .i64 0, .int .i64 1, .int .i64 1, .int .i64 0, .int .i64 0, .int .i64 0, .int .i64 2] 56) = X := ⟨_, rfl⟩
  have hb4 : Below w3.heap.size w3 w4 := by rw [← hw4]; exact bl_one _
  have hs4 : w4.heap.size = g + 4 := by rw [← hw4]; simp [hs3]
  have hc4 : Cells w4 (g + 3) [.int .i64 (-1), .int .i64 0, .int .i64 0, .int .i64 0, .int .i64 0, .int .i64 0, .int .i64 0, .int .i64 0, .int .i64 1, .int .i64 1, .int .i64 0, .int .i64 0, .int .i64 0, .int .i64 2] := by rw [← hw4, ← hs3]; exact Cells.new w3 [.int .i64 (-1), .int .i64 0, .int .i64 0, .int .i64 0, .int .i64 0, .int .i64 0, .int .i64 0, .int .i64 0, .int .i64 1, .int .i64 1, .int .i64 0, .int .i64 0, .int .i64 0, .int .i64 2] _
  obtain ⟨w5, hw5⟩ : ∃ X, w4.alloc (.cells #[.int .i64 0, .int .i64 1, .int .i64 0] 3) = X := ⟨_, rfl⟩
  have hb5 : Below w4.heap.size w4 w5 := by rw [← hw5]; exact bl_one _
  have hs5 : w5.heap.size = g + 5 := by rw [← hw5]; simp [hs4]
  have hc5 : Cells w5 (g + 4) [.int .i64 0, .int .i64 1, .int .i64 0] := by rw [← hw5, ← hs4]; exact Cells.new w4 [.int .i64 0, .int .i64 1, .int .i64 0] _
  obtain ⟨w6, hw6⟩ : ∃ X, w5.alloc (.cells zc 95) = X := ⟨_, rfl⟩
  have hb6 : Below w5.heap.size w5 w6 := by rw [← hw6]; exact bl_one _
  have hs6 : w6.heap.size = g + 6 := by rw [← hw6]; simp [hs5]
  have hc6 : Cells w6 (g + 5) ((List.replicate 3 zW).flatMap cW) := by rw [← hw6, ← hs5, ← hzc]; exact Cells.new w5 zc.toList _
  obtain ⟨w7, hw7⟩ : ∃ X, w6.alloc (.cells #[.string ⟨#[102]⟩, .bool false, .slice none 0 0, .slice none 0 0, .slice none 0 0, .slice none 0 0, .slice (some ⟨g + 1, 0, none⟩) 3 3, .slice (some ⟨g + 2, 0, none⟩) 3 3, .slice (some ⟨g + 3, 0, none⟩) 2 2, .slice (some ⟨g + 4, 0, none⟩) 3 3, .slice (some ⟨g + 5, 0, none⟩) 3 3] 42) = X := ⟨_, rfl⟩
  have hb7 : Below w6.heap.size w6 w7 := by rw [← hw7]; exact bl_one _
  have hs7 : w7.heap.size = g + 7 := by rw [← hw7]; simp [hs6]
  have hc7 : Cells w7 (g + 6) [.string ⟨#[102]⟩, .bool false, .slice none 0 0, .slice none 0 0, .slice none 0 0, .slice none 0 0, .slice (some ⟨g + 1, 0, none⟩) 3 3, .slice (some ⟨g + 2, 0, none⟩) 3 3, .slice (some ⟨g + 3, 0, none⟩) 2 2, .slice (some ⟨g + 4, 0, none⟩) 3 3, .slice (some ⟨g + 5, 0, none⟩) 3 3] := by rw [← hw7, ← hs6]; exact Cells.new w6 [.string ⟨#[102]⟩, .bool false, .slice none 0 0, .slice none 0 0, .slice none 0 0, .slice none 0 0, .slice (some ⟨g + 1, 0, none⟩) 3 3, .slice (some ⟨g + 2, 0, none⟩) 3 3, .slice (some ⟨g + 3, 0, none⟩) 2 2, .slice (some ⟨g + 4, 0, none⟩) 3 3, .slice (some ⟨g + 5, 0, none⟩) 3 3] _
  obtain ⟨w8, hw8⟩ : ∃ X, w7.alloc (.cells #[.int .i64 25, .int .i64 0] 65) = X := ⟨_, rfl⟩
  have hb8 : Below w7.heap.size w7 w8 := by rw [← hw8]; exact bl_one _
  have hs8 : w8.heap.size = g + 8 := by rw [← hw8]; simp [hs7]
  have hc8 : Cells w8 (g + 7) [.int .i64 25, .int .i64 0] := by rw [← hw8, ← hs7]; exact Cells.new w7 [.int .i64 25, .int .i64 0] _
  obtain ⟨w9, hw9⟩ : ∃ X, w8.alloc (.cells #[.int .i64 2] 3) = X := ⟨_, rfl⟩
  have hb9 : Below w8.heap.size w8 w9 := by rw [← hw9]; exact bl_one _
  have hs9 : w9.heap.size = g + 9 := by rw [← hw9]; simp [hs8]
  have hc9 : Cells w9 (g + 8) [.int .i64 2] := by rw [← hw9, ← hs8]; exact Cells.new w8 [.int .i64 2] _
  have f0 := hc7.at_ 0 _ rfl
  have f1 := hc7.at_ 1 _ rfl
  have f2 := hc7.at_ 2 _ rfl
  have f3 := hc7.at_ 3 _ rfl
  have f4 := hc7.at_ 4 _ rfl
  have f5 := hc7.at_ 5 _ rfl
  have f6 := hc7.at_ 6 _ rfl
  have f7 := hc7.at_ 7 _ rfl
  have f8 := hc7.at_ 8 _ rfl
  have f9 := hc7.at_ 9 _ rfl
  have f10 := hc7.at_ 10 _ rfl
  go_enter Try.func17, Try.ntmps17
  go_upto_region 3 with fail
  obtain ⟨w10, hw10⟩ : ∃ X, w9.alloc (.cells #[.string ⟨#[103]⟩, .bool false, .slice none 0 0, .slice none 0 0, .slice none 0 0, .slice none 0 0, .slice (some ⟨g + 7, 0, none⟩) 1 1, .slice (some ⟨g + 8, 0, none⟩) 1 1, .slice none 0 0, .slice none 0 0, .slice none 0 0] 42) = X := ⟨_, rfl⟩
  rw [hw10]
  have hb10 : Below w9.heap.size w9 w10 := by rw [← hw10]; exact bl_one _
  have hs10 : w10.heap.size = g + 10 := by rw [← hw10]; simp [hs9]
  have hc10 : Cells w10 (g + 9) [.string ⟨#[103]⟩, .bool false, .slice none 0 0, .slice none 0 0, .slice none 0 0, .slice none 0 0, .slice (some ⟨g + 7, 0, none⟩) 1 1, .slice (some ⟨g + 8, 0, none⟩) 1 1, .slice none 0 0, .slice none 0 0, .slice none 0 0] := by rw [← hw10, ← hs9]; exact Cells.new w9 [.string ⟨#[103]⟩, .bool false, .slice none 0 0, .slice none 0 0, .slice none 0 0, .slice none 0 0, .slice (some ⟨g + 7, 0, none⟩) 1 1, .slice (some ⟨g + 8, 0, none⟩) 1 1, .slice none 0 0, .slice none 0 0, .slice none 0 0] _
  obtain ⟨w11, hw11⟩ : ∃ X, w10.alloc (.cells #[.string ⟨#[102]⟩, .bool false, .slice none 0 0, .slice none 0 0, .slice none 0 0, .slice none 0 0, .slice (some ⟨g + 1, 0, none⟩) 3 3, .slice (some ⟨g + 2, 0, none⟩) 3 3, .slice (some ⟨g + 3, 0, none⟩) 2 2, .slice (some ⟨g + 4, 0, none⟩) 3 3, .slice (some ⟨g + 5, 0, none⟩) 3 3, .string ⟨#[103]⟩, .bool false, .slice none 0 0, .slice none 0 0, .slice none 0 0, .slice none 0 0, .slice (some ⟨g + 7, 0, none⟩) 1 1, .slice (some ⟨g + 8, 0, none⟩) 1 1, .slice none 0 0, .slice none 0 0, .slice none 0 0] 42) = X := ⟨_, rfl⟩
  have hb11 : Below w10.heap.size w10 w11 := by rw [← hw11]; exact bl_one _
  have hs11 : w11.heap.size = g + 11 := by rw [← hw11]; simp [hs10]
  have hc11 : Cells w11 (g + 10) [.string ⟨#[102]⟩, .bool false, .slice none 0 0, .slice none 0 0, .slice none 0 0, .slice none 0 0, .slice (some ⟨g + 1, 0, none⟩) 3 3, .slice (some ⟨g + 2, 0, none⟩) 3 3, .slice (some ⟨g + 3, 0, none⟩) 2 2, .slice (some ⟨g + 4, 0, none⟩) 3 3, .slice (some ⟨g + 5, 0, none⟩) 3 3, .string ⟨#[103]⟩, .bool false, .slice none 0 0, .slice none 0 0, .slice none 0 0, .slice none 0 0, .slice (some ⟨g + 7, 0, none⟩) 1 1, .slice (some ⟨g + 8, 0, none⟩) 1 1, .slice none 0 0, .slice none 0 0, .slice none 0 0] := by rw [← hw11, ← hs10]; exact Cells.new w10 [.string ⟨#[102]⟩, .bool false, .slice none 0 0, .slice none 0 0, .slice none 0 0, .slice none 0 0, .slice (some ⟨g + 1, 0, none⟩) 3 3, .slice (some ⟨g + 2, 0, none⟩) 3 3, .slice (some ⟨g + 3, 0, none⟩) 2 2, .slice (some ⟨g + 4, 0, none⟩) 3 3, .slice (some ⟨g + 5, 0, none⟩) 3 3, .string ⟨#[103]⟩, .bool false, .slice none 0 0, .slice none 0 0, .slice none 0 0, .slice none 0 0, .slice (some ⟨g + 7, 0, none⟩) 1 1, .slice (some ⟨g + 8, 0, none⟩) 1 1, .slice none 0 0, .slice none 0 0, .slice none 0 0] _
  have hk2 : Below w.heap.size w w2 := hb1.trans (hb2.mono hb1.size)
  have hk3 : Below w.heap.size w w3 := hk2.trans (hb3.mono hk2.size)
  have hk4 : Below w.heap.size w w4 := hk3.trans (hb4.mono hk3.size)
  have hk5 : Below w.heap.size w w5 := hk4.trans (hb5.mono hk4.size)
  have hk6 : Below w.heap.size w w6 := hk5.trans (hb6.mono hk5.size)
  have hk7 : Below w.heap.size w w7 := hk6.trans (hb7.mono hk6.size)
  have hk8 : Below w.heap.size w w8 := hk7.trans (hb8.mono hk7.size)
  have hk9 : Below w.heap.size w w9 := hk8.trans (hb9.mono hk8.size)
  have hk10 : Below w.heap.size w w10 := hk9.trans (hb10.mono hk9.size)
  have hk11 : Below w.heap.size w w11 := hk10.trans (hb11.mono hk10.size)
  have hp := ((((((((((hc1.on hb2).on hb3).on hb4).on hb5).on hb6).on hb7).on hb8).on hb9).on hb10).on hb11)
  have p0 := hp.at_ 0 _ rfl
  have pf := hp.fz 0 (by simp)
  obtain ⟨w12, hw12⟩ : ∃ X, w11.setCell ⟨g, 0, none⟩ (.slice (some ⟨g + 10, 0, none⟩) 2 2) = X := ⟨_, rfl⟩
  have hp12 : Cells w12 g [.slice (some ⟨g + 10, 0, none⟩) 2 2] := by rw [← hw12]; exact hp.put 0 (by simp) _
  have hd2 : Cells w12 (g + 1) [.int .i64 33, .int .i64 1, .int .i64 34, .int .i64 1, .int .i64 25, .int .i64 0] := by rw [← hw12]; exact Cells.far (((((((((hc2.on hb3).on hb4).on hb5).on hb6).on hb7).on hb8).on hb9).on hb10).on hb11) (by omega) _
  have hd3 : Cells w12 (g + 2) [.int .i64 1, .int .i64 2, .int .i64 1] := by rw [← hw12]; exact Cells.far ((((((((hc3.on hb4).on hb5).on hb6).on hb7).on hb8).on hb9).on hb10).on hb11) (by omega) _
  have hd4 : Cells w12 (g + 3) [.int .i64 (-1), .int .i64 0, .int .i64 0, .int .i64 0, .int .i64 0, .int .i64 0, .int .i64 0, .int .i64 0, .int .i64 1, .int .i64 1, .int .i64 0, .int .i64 0, .int .i64 0, .int .i64 2] := by rw [← hw12]; exact Cells.far (((((((hc4.on hb5).on hb6).on hb7).on hb8).on hb9).on hb10).on hb11) (by omega) _
  have hd5 : Cells w12 (g + 4) [.int .i64 0, .int .i64 1, .int .i64 0] := by rw [← hw12]; exact Cells.far ((((((hc5.on hb6).on hb7).on hb8).on hb9).on hb10).on hb11) (by omega) _
  have hd6 : Cells w12 (g + 5) ((List.replicate 3 zW).flatMap cW) := by rw [← hw12]; exact Cells.far (((((hc6.on hb7).on hb8).on hb9).on hb10).on hb11) (by omega) _
  have hd11 : Cells w12 (g + 10) [.string ⟨#[102]⟩, .bool false, .slice none 0 0, .slice none 0 0, .slice none 0 0, .slice none 0 0, .slice (some ⟨g + 1, 0, none⟩) 3 3, .slice (some ⟨g + 2, 0, none⟩) 3 3, .slice (some ⟨g + 3, 0, none⟩) 2 2, .slice (some ⟨g + 4, 0, none⟩) 3 3, .slice (some ⟨g + 5, 0, none⟩) 3 3, .string ⟨#[103]⟩, .bool false, .slice none 0 0, .slice none 0 0, .slice none 0 0, .slice none 0 0, .slice (some ⟨g + 7, 0, none⟩) 1 1, .slice (some ⟨g + 8, 0, none⟩) 1 1, .slice none 0 0, .slice none 0 0, .slice none 0 0] := by rw [← hw12]; exact Cells.far hc11 (by omega) _
  have hbw : Below w.heap.size w w12 := by rw [← hw12]; exact hk11.setCell (p := ⟨g, 0, none⟩) (by show w.heap.size ≤ g; omega) _
  have HFW := Lib.hid (xi_w hd2 hd3 hd4 hd5 hd6)
  have HD := Lib.hid hd11
  have HBW := Lib.hid hbw
  have HP12 := Lib.hid hp12
  have f0' := ((((hc7.on hb8).on hb9).on hb10)).at_ 0 _ rfl
  have f1' := ((((hc7.on hb8).on hb9).on hb10)).at_ 1 _ rfl
  have f2' := ((((hc7.on hb8).on hb9).on hb10)).at_ 2 _ rfl
  have f3' := ((((hc7.on hb8).on hb9).on hb10)).at_ 3 _ rfl
  have f4' := ((((hc7.on hb8).on hb9).on hb10)).at_ 4 _ rfl
  have f5' := ((((hc7.on hb8).on hb9).on hb10)).at_ 5 _ rfl
  have f6' := ((((hc7.on hb8).on hb9).on hb10)).at_ 6 _ rfl
  have f7' := ((((hc7.on hb8).on hb9).on hb10)).at_ 7 _ rfl
  have f8' := ((((hc7.on hb8).on hb9).on hb10)).at_ 8 _ rfl
  have f9' := ((((hc7.on hb8).on hb9).on hb10)).at_ 9 _ rfl
  have f10' := ((((hc7.on hb8).on hb9).on hb10)).at_ 10 _ rfl
  have k0 := hc10.at_ 0 _ rfl
  have k1 := hc10.at_ 1 _ rfl
  have k2 := hc10.at_ 2 _ rfl
  have k3 := hc10.at_ 3 _ rfl
  have k4 := hc10.at_ 4 _ rfl
  have k5 := hc10.at_ 5 _ rfl
  have k6 := hc10.at_ 6 _ rfl
  have k7 := hc10.at_ 7 _ rfl
  have k8 := hc10.at_ 8 _ rfl
  have k9 := hc10.at_ 9 _ rfl
  have k10 := hc10.at_ 10 _ rfl
  clear hb1 hb2 hb3 hb4 hb5 hb6 hb7 hb8 hb9 hb10 hb11 hk2 hk3 hk4 hk5 hk6 hk7 hk8 hk9 hk10 hk11 hc1 hc2 hc3 hc4 hc5 hc6 hc7 hc8 hc9 hc10 hc11 hd2 hd3 hd4 hd5 hd6 hd11 hp hp12 hbw f0 f1 f2 f3 f4 f5 f6 f7 f8 f9 f10
  go_wp2_with fail
  have rz0 := HP12.out.at_ 0 _ rfl
  try rw [hw12]
  refine bodyPost_ret (v := .agg #[.slice (some ⟨g + 10, 0, none⟩) 2 2]) (by simp [results, Try.results17, go_sem, rz0]) rfl ⟨g, g + 10, rfl, HD.out.lt, fun j u hu => ?_, HFW.out, HBW.out⟩
  rw [show 0 + 0 * 11 + j = j by omega]
  refine HD.out.at_ j u ?_
  have hj := (List.getElem?_eq_some_iff.1 hu).1
  simp at hj
  have : j = 0 ∨ j = 1 ∨ j = 2 ∨ j = 3 ∨ j = 4 ∨ j = 5 ∨ j = 6 ∨ j = 7 ∨ j = 8 ∨ j = 9 ∨ j = 10 := by omega
  rcases this with rfl | rfl | rfl | rfl | rfl | rfl | rfl | rfl | rfl | rfl | rfl <;> exact hu
set_option maxRecDepth 100000 in
set_option maxHeartbeats 16000000 in
theorem trace_lives (w : World) : Calls Try.prog 7 #[] w fun e w' => e = .returned (.bool true) ∧ Below w.heap.size w w' := by
  have cI := Lib.hid (inlined_any w)
  go_enter Try.func7, Try.ntmps7
  go_wp2_with fail
  refine cI.out.mono ?_
  rintro e w1 ⟨g, gb, rfl, hgb, hcl, hfw, hb1⟩
  have cE := Lib.hid (expand_in ⟨#[102]⟩ false none 0 0 none 0 0 none 0 0 none 0 0 (some ⟨g + 1, 0, none⟩) 3 3 (some ⟨g + 2, 0, none⟩) 3 3 (some ⟨g + 3, 0, none⟩) 2 2 (some ⟨g + 4, 0, none⟩) 3 3 (some ⟨g + 5, 0, none⟩) 3 3 xi gb 0 2 2 0 1 w1 hgb hcl hfw xi_can (by omega) (by omega) (by omega))
  have HB1 := Lib.hid hb1
  clear cI hgb hcl hfw hb1
  go_wp2_with fail
  refine cE.out.mono ?_
  rintro e w2 ⟨A, k, c, rfl, hk, hown, hb2⟩
  have HB2 : Hid (Below w.heap.size w w2) := Lib.hid (HB1.out.trans (hb2.mono HB1.out.size))
  rw [xi_exp] at hk hown
  obtain rfl : k = 2 := hk
  obtain ⟨b, off, rfl, c0, c1, c2, c3⟩ := ent_two hown
  clear hown hb2 cE HB1
  go_wp2_with fail
  go_ret
  exact ⟨rfl, HB2.out⟩
end Go.Proofs.Ytobmjnmcjddhcaa
