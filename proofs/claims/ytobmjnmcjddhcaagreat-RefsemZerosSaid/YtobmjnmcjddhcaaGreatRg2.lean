import Derived.Test.YtobmjnmcjddhcaaGreatRg1
import Derived.OrdersHeld
import Derived.RegionTactic
import Derived.ChangeAlike
import Derived.Deep.RegionWith
import Derived.Laws.StructEq
import Derived.Laws.Bits64b
set_option linter.unusedSimpArgs false
set_option linter.unusedVariables false
namespace Go.Proofs.YtobmjnmcjddhcaaGreat
section
section
variable {P : Program} {ops : Array Oper} {Q : Exit → Act → World → Prop} {md : Region.Mode} {S : World → Prop} {oi : Oper} {fuel : Nat} {listed : Array Bool} {a : Act} {w : World}
theorem teH (i : Nat) (v : Value) (hi : ops[i]? = some oi) (hv : ∀ w, S w → (execOp a.eval oi).run P w = .ok (.value v) w) (hS : S w) (h : wpAnyH P md ops Q S fuel (listed.setIfInBounds i true) (a.put oi.dst v) w)
    (hs : Region.noSelect ops = true := by kernel_rfl) (hf : Region.free md ops listed i = true := by kernel_rfl) (hr : (Region.ready md ops listed).contains i = true := by kernel_rfl) (hw : Region.wanted oi (yielded ops a.tmps) = true := by rfl) (hQ : ∀ c a w, Q (.panic c) (a.put oi.dst v) w → Q (.panic c) a w := by intro _ _ _ h; exact h) : wpAnyH P md ops Q S (fuel + 1) listed a w :=
  wpAnyH_take hi hs hf hr hQ (Or.inl ⟨hw, hv⟩) hS h
theorem tkH (i : Nat) {v : Value} (hi : ops[i]? = some oi) (hv : ∀ w, S w → (execOp a.eval oi).run P w = .ok (.value v) w) (hS : S w) (h : wpAnyH P md ops Q S fuel (listed.setIfInBounds i true) (a.put oi.dst v) w)
    (hs : Region.noSelect ops = true := by kernel_rfl) (hf : Region.free md ops listed i = true := by kernel_rfl) (hr : (Region.ready md ops listed).contains i = true := by kernel_rfl) (hw : Region.wanted oi (yielded ops a.tmps) = true := by rfl) (hQ : ∀ c a w, Q (.panic c) (a.put oi.dst v) w → Q (.panic c) a w := by intro _ _ _ h; exact h) : wpAnyH P md ops Q S (fuel + 1) listed a w :=
  wpAnyH_take hi hs hf hr hQ (Or.inl ⟨hw, hv⟩) hS h
end
theorem c11 {W : World} {g : Nat} {a0 a1 a2 a3 a4 a5 a6 a7 a8 a9 a10 : Value} (h : Cells W g [a0, a1, a2, a3, a4, a5, a6, a7, a8, a9, a10]) : W.cell? ⟨g, 0, none⟩ = some a0 ∧ W.cell? ⟨g, 1, none⟩ = some a1 ∧ W.cell? ⟨g, 2, none⟩ = some a2 ∧ W.cell? ⟨g, 3, none⟩ = some a3 ∧ W.cell? ⟨g, 4, none⟩ = some a4 ∧ W.cell? ⟨g, 5, none⟩ = some a5 ∧ W.cell? ⟨g, 6, none⟩ = some a6 ∧ W.cell? ⟨g, 7, none⟩ = some a7 ∧ W.cell? ⟨g, 8, none⟩ = some a8 ∧ W.cell? ⟨g, 9, none⟩ = some a9 ∧ W.cell? ⟨g, 10, none⟩ = some a10 :=
  ⟨h.at_ 0 _ rfl, h.at_ 1 _ rfl, h.at_ 2 _ rfl, h.at_ 3 _ rfl, h.at_ 4 _ rfl, h.at_ 5 _ rfl, h.at_ 6 _ rfl, h.at_ 7 _ rfl, h.at_ 8 _ rfl, h.at_ 9 _ rfl, h.at_ 10 _ rfl⟩
end
section
open Go.RowKit
def cellsN (x : DNode) : List Value := [.int .i64 x.parent, .int .i64 x.fn, .int .i64 x.line, .int .i64 x.from_, .int .i64 x.args, .int .i64 x.to_, .int .i64 x.resume]
abbrev SlN (w : World) (B : Nat) (A : Option Addr) (n c : Nat) (xs : List DNode) : Prop := SlR 7 56 (RC cellsN) w B A n c xs
theorem sln_of {w : World} {B : Nat} {A : Option Addr} {n c : Nat} {xs : List DNode} (h : SlR 7 56 RNode w B A n c xs) : SlN w B A n c xs := h.imp fun cs x _ hr => hr.1
theorem sln_at {w : World} {B : Nat} {A : Option Addr} {n c : Nat} {xs : List DNode} (h : SlN w B A n c xs) {k : Nat} (hk : k < n) : ∃ b off x, A = some ⟨b, off, none⟩ ∧ b < B ∧ xs[k]? = some x ∧ w.cell? ⟨b, off + k * 7, none⟩ = some (.int .i64 x.parent) ∧ w.cell? ⟨b, off + k * 7 + 1, none⟩ = some (.int .i64 x.fn) ∧ w.cell? ⟨b, off + k * 7 + 2, none⟩ = some (.int .i64 x.line) ∧ w.cell? ⟨b, off + k * 7 + 3, none⟩ = some (.int .i64 x.from_) ∧ w.cell? ⟨b, off + k * 7 + 4, none⟩ = some (.int .i64 x.args) ∧ w.cell? ⟨b, off + k * 7 + 5, none⟩ = some (.int .i64 x.to_) ∧ w.cell? ⟨b, off + k * 7 + 6, none⟩ = some (.int .i64 x.resume) := by
 obtain ⟨b, off, x, cs, hA, hb, hx, _, hc, hr⟩ := h.at_ hk
 unfold RC at hr
 subst hr
 exact ⟨b, off, x, hA, hb, hx, by simpa using hc 0 _ rfl, by simpa [Nat.add_assoc] using hc 1 _ rfl, by simpa [Nat.add_assoc] using hc 2 _ rfl, by simpa [Nat.add_assoc] using hc 3 _ rfl, by simpa [Nat.add_assoc] using hc 4 _ rfl, by simpa [Nat.add_assoc] using hc 5 _ rfl, by simpa [Nat.add_assoc] using hc 6 _ rfl⟩
end
section
set_option maxRecDepth 100000
set_option maxHeartbeats 4000000
open Go.RowKit
abbrev aggU (a b c d : Int) : Value := .agg #[.int .u64 a, .int .u64 b, .int .u64 c, .int .u64 d]
def fU (x y : Int) : Int := bits .andNot .u64 x y
structure Sta (w wr : World) (g : Nat) (c0 c1 c2 c3 b0 b1 b2 b3 : Int) : Prop where
 a0 : wr.cell? ⟨g, 0, none⟩ = some (.int .u64 c0)
 a1 : wr.cell? ⟨g, 1, none⟩ = some (.int .u64 c1)
 a2 : wr.cell? ⟨g, 2, none⟩ = some (.int .u64 c2)
 a3 : wr.cell? ⟨g, 3, none⟩ = some (.int .u64 c3)
 fa : ∀ j, wr.frozen? ⟨g, j, none⟩ = false
 y0 : wr.cell? ⟨g + 1, 0, none⟩ = some (.int .u64 b0)
 y1 : wr.cell? ⟨g + 1, 1, none⟩ = some (.int .u64 b1)
 y2 : wr.cell? ⟨g + 1, 2, none⟩ = some (.int .u64 b2)
 y3 : wr.cell? ⟨g + 1, 3, none⟩ = some (.int .u64 b3)
 r0 : wr.cell? ⟨g + 1 + 1, 0, none⟩ = some (.int .u64 0)
 r1 : wr.cell? ⟨g + 1 + 1, 1, none⟩ = some (.int .u64 0)
 r2 : wr.cell? ⟨g + 1 + 1, 2, none⟩ = some (.int .u64 0)
 r3 : wr.cell? ⟨g + 1 + 1, 3, none⟩ = some (.int .u64 0)
 fr : ∀ j, wr.frozen? ⟨g + 1 + 1, j, none⟩ = false
 bw : Below w.heap.size w wr
 sz : g + 1 + 1 < wr.heap.size
theorem sta_start (w : World) (a0 a1 a2 a3 b0 b1 b2 b3 : Int) : Sta w (((w.alloc (.cells #[.int .u64 a0, .int .u64 a1, .int .u64 a2, .int .u64 a3] 216)).alloc (.cells #[.int .u64 b0, .int .u64 b1, .int .u64 b2, .int .u64 b3] 216)).alloc (.cells #[.int .u64 0, .int .u64 0, .int .u64 0, .int .u64 0] 216)) w.heap.size a0 a1 a2 a3 b0 b1 b2 b3 := by
 constructor
 case bw => exact (((Below.refl _ _).alloc (Nat.le_refl _) _).alloc (by simp) _).alloc (by simp; omega) _
 all_goals simp [go_sem]
theorem Sta.drawn {w wr : World} {g : Nat} {c0 c1 c2 c3 b0 b1 b2 b3 : Int} (h : Sta w wr g c0 c1 c2 c3 b0 b1 b2 b3) (n : Nat) : Sta w (wr.drewN n) g c0 c1 c2 c3 b0 b1 b2 b3 :=
 ⟨h.a0, h.a1, h.a2, h.a3, h.fa, h.y0, h.y1, h.y2, h.y3, h.r0, h.r1, h.r2, h.r3, h.fr, below_drewN' h.bw n, h.sz⟩
theorem Sta.put0 {w wr : World} {g : Nat} {c0 c1 c2 c3 b0 b1 b2 b3 : Int} (h : Sta w wr g c0 c1 c2 c3 b0 b1 b2 b3) (hg : w.heap.size ≤ g) (v : Int) : Sta w (wr.setCell ⟨g, 0, none⟩ (.int .u64 v)) g v c1 c2 c3 b0 b1 b2 b3 := by
 have n1 : ¬ g = g + 1 := by omega
 have n2 : ¬ g = g + 1 + 1 := by omega
 constructor
 case bw => exact h.bw.setCell (p := ⟨g, 0, none⟩) hg _
 case sz => have := h.sz; simpa using this
 case fa => intro j; simpa [go_sem] using h.fa j
 case fr => intro j; simpa [go_sem] using h.fr j
 all_goals simp [go_sem, h.a0, h.a1, h.a2, h.a3, h.y0, h.y1, h.y2, h.y3, h.r0, h.r1, h.r2, h.r3, n1, n2]
theorem Sta.put1 {w wr : World} {g : Nat} {c0 c1 c2 c3 b0 b1 b2 b3 : Int} (h : Sta w wr g c0 c1 c2 c3 b0 b1 b2 b3) (hg : w.heap.size ≤ g) (v : Int) : Sta w (wr.setCell ⟨g, 1, none⟩ (.int .u64 v)) g c0 v c2 c3 b0 b1 b2 b3 := by
 have n1 : ¬ g = g + 1 := by omega
 have n2 : ¬ g = g + 1 + 1 := by omega
 constructor
 case bw => exact h.bw.setCell (p := ⟨g, 1, none⟩) hg _
 case sz => have := h.sz; simpa using this
 case fa => intro j; simpa [go_sem] using h.fa j
 case fr => intro j; simpa [go_sem] using h.fr j
 all_goals simp [go_sem, h.a0, h.a1, h.a2, h.a3, h.y0, h.y1, h.y2, h.y3, h.r0, h.r1, h.r2, h.r3, n1, n2]
theorem Sta.put2 {w wr : World} {g : Nat} {c0 c1 c2 c3 b0 b1 b2 b3 : Int} (h : Sta w wr g c0 c1 c2 c3 b0 b1 b2 b3) (hg : w.heap.size ≤ g) (v : Int) : Sta w (wr.setCell ⟨g, 2, none⟩ (.int .u64 v)) g c0 c1 v c3 b0 b1 b2 b3 := by
 have n1 : ¬ g = g + 1 := by omega
 have n2 : ¬ g = g + 1 + 1 := by omega
 constructor
 case bw => exact h.bw.setCell (p := ⟨g, 2, none⟩) hg _
 case sz => have := h.sz; simpa using this
 case fa => intro j; simpa [go_sem] using h.fa j
 case fr => intro j; simpa [go_sem] using h.fr j
 all_goals simp [go_sem, h.a0, h.a1, h.a2, h.a3, h.y0, h.y1, h.y2, h.y3, h.r0, h.r1, h.r2, h.r3, n1, n2]
theorem Sta.put3 {w wr : World} {g : Nat} {c0 c1 c2 c3 b0 b1 b2 b3 : Int} (h : Sta w wr g c0 c1 c2 c3 b0 b1 b2 b3) (hg : w.heap.size ≤ g) (v : Int) : Sta w (wr.setCell ⟨g, 3, none⟩ (.int .u64 v)) g c0 c1 c2 v b0 b1 b2 b3 := by
 have n1 : ¬ g = g + 1 := by omega
 have n2 : ¬ g = g + 1 + 1 := by omega
 constructor
 case bw => exact h.bw.setCell (p := ⟨g, 3, none⟩) hg _
 case sz => have := h.sz; simpa using this
 case fa => intro j; simpa [go_sem] using h.fa j
 case fr => intro j; simpa [go_sem] using h.fr j
 all_goals simp [go_sem, h.a0, h.a1, h.a2, h.a3, h.y0, h.y1, h.y2, h.y3, h.r0, h.r1, h.r2, h.r3, n1, n2]
def IsAgg (a b c d : Int) (w : World) (e : Ending) (w' : World) : Prop := e = .returned (aggU a b c d) ∧ Below w.heap.size w w'
theorem refSub_any (a0 a1 a2 a3 b0 b1 b2 b3 : Int) (w : World) : Calls Tryz.prog 160 #[aggU a0 a1 a2 a3, aggU b0 b1 b2 b3] w (IsAgg (fU a0 b0) (fU a1 b1) (fU a2 b2) (fU a3 b3) w) := by
 have H0 := Hd (sta_start w a0 a1 a2 a3 b0 b1 b2 b3)
 go_in
 go_wp2_with fail
 go_loopw [5] (fun i wr => ∃ (k : Nat) (c0 c1 c2 c3 : Int), i = .int .i64 k ∧ k ≤ 4 ∧ Hid (Sta w wr w.heap.size c0 c1 c2 c3 b0 b1 b2 b3) ∧ Hid (c0 = (if 0 < k then fU a0 b0 else a0) ∧ c1 = (if 1 < k then fU a1 b1 else a1) ∧ c2 = (if 2 < k then fU a2 b2 else a2) ∧ c3 = (if 3 < k then fU a3 b3 else a3))) (fun i _ => 4 - (intOf i).toNat)
 case atStart => exact ⟨0, a0, a1, a2, a3, rfl, by omega, H0, Hd ⟨rfl, rfl, rfl, rfl⟩⟩
 case round =>
  obtain ⟨k, c0, c1, c2, c3, rfl, hk, h, hc⟩ := hrel
  have q0 := h.out.a0
  have q1 := h.out.a1
  have q2 := h.out.a2
  have q3 := h.out.a3
  have p0 := h.out.y0
  have p1 := h.out.y1
  have p2 := h.out.y2
  have p3 := h.out.y3
  have fz := h.out.fa
  clear H0
  rcases (show k = 0 ∨ k = 1 ∨ k = 2 ∨ k = 3 ∨ k = 4 by omega) with rfl | rfl | rfl | rfl | rfl
  ·have Hn := Hd (h.out.put0 (Nat.le_refl _) (fU c0 b0))
   go_wp2_with fail
   go_region
   all_goals go_wp2_with fail
   all_goals go_roundw
   all_goals first
    | (case rel => exact ⟨1, fU c0 b0, c1, c2, c3, by go_num, by omega, Hd (Hn.out.drawn _), Hd (by
      obtain ⟨e0, e1, e2, e3⟩ := hc.out
      subst e0 e1 e2 e3
      exact ⟨rfl, rfl, rfl, rfl⟩)⟩)
    | (case measure => simp [intOf])
    | (simp [intOf]; done)
  ·have Hn := Hd (h.out.put1 (Nat.le_refl _) (fU c1 b1))
   go_wp2_with fail
   go_region
   all_goals go_wp2_with fail
   all_goals go_roundw
   all_goals first
    | (case rel => exact ⟨2, c0, fU c1 b1, c2, c3, by go_num, by omega, Hd (Hn.out.drawn _), Hd (by
      obtain ⟨e0, e1, e2, e3⟩ := hc.out
      subst e0 e1 e2 e3
      exact ⟨rfl, rfl, rfl, rfl⟩)⟩)
    | (case measure => simp [intOf])
    | (simp [intOf]; done)
  ·have Hn := Hd (h.out.put2 (Nat.le_refl _) (fU c2 b2))
   go_wp2_with fail
   go_region
   all_goals go_wp2_with fail
   all_goals go_roundw
   all_goals first
    | (case rel => exact ⟨3, c0, c1, fU c2 b2, c3, by go_num, by omega, Hd (Hn.out.drawn _), Hd (by
      obtain ⟨e0, e1, e2, e3⟩ := hc.out
      subst e0 e1 e2 e3
      exact ⟨rfl, rfl, rfl, rfl⟩)⟩)
    | (case measure => simp [intOf])
    | (simp [intOf]; done)
  ·have Hn := Hd (h.out.put3 (Nat.le_refl _) (fU c3 b3))
   go_wp2_with fail
   go_region
   all_goals go_wp2_with fail
   all_goals go_roundw
   all_goals first
    | (case rel => exact ⟨4, c0, c1, c2, fU c3 b3, by go_num, by omega, Hd (Hn.out.drawn _), Hd (by
      obtain ⟨e0, e1, e2, e3⟩ := hc.out
      subst e0 e1 e2 e3
      exact ⟨rfl, rfl, rfl, rfl⟩)⟩)
    | (case measure => simp [intOf])
    | (simp [intOf]; done)
  ·have r0 := h.out.r0
   have r1 := h.out.r1
   have r2 := h.out.r2
   have r3 := h.out.r3
   have fr := h.out.fr
   have hne : ¬ w.heap.size + 1 + 1 = w.heap.size := by omega
   have hne' : ¬ w.heap.size = w.heap.size + 1 + 1 := by omega
   have HB := Hd h.out.bw
   go_wp2_with fail
   obtain ⟨e0, e1, e2, e3⟩ := hc.out
   have HE := Hd (And.intro e0 (And.intro e1 (And.intro e2 e3)))
   clear e0 e1 e2 e3
   refine bodyPost_ret (v := aggU c0 c1 c2 c3) (by simp [results, Tryz.results160, go_sem, q0, q1, q2, q3, r0, r1, r2, r3, fr, hne, hne']) rfl ⟨by rw [HE.out.1, HE.out.2.1, HE.out.2.2.1, HE.out.2.2.2]; rfl, ?_⟩
   exact (((HB.out.setCell (p := ⟨w.heap.size + 1 + 1, 0, none⟩) (by show w.heap.size ≤ w.heap.size + 1 + 1; omega) _).setCell (p := ⟨w.heap.size + 1 + 1, 1, none⟩) (by show w.heap.size ≤ w.heap.size + 1 + 1; omega) _).setCell (p := ⟨w.heap.size + 1 + 1, 2, none⟩) (by show w.heap.size ≤ w.heap.size + 1 + 1; omega) _).setCell (p := ⟨w.heap.size + 1 + 1, 3, none⟩) (by show w.heap.size ≤ w.heap.size + 1 + 1; omega) _
def insB (a0 a1 a2 a3 b0 b1 b2 b3 : Int) : Bool := (fU a0 b0 == 0) && ((fU a1 b1 == 0) && ((fU a2 b2 == 0) && (fU a3 b3 == 0)))
theorem eq_arr (d : Nat) (c0 c1 c2 c3 z0 z1 z2 z3 : Int) (W : World) : (Op.equalIn (d + 2) 216 (aggU c0 c1 c2 c3) (aggU z0 z1 z2 z3)).run Tryz.prog W = .ok ((c0 == z0) && ((c1 == z1) && ((c2 == z2) && (c3 == z3)))) W := by
 have hu := Tryz.underlying216
 have hs : ∀ W, (sizeOf 214).run Tryz.prog W = .ok 1 W := fun W => by kernel_rfl
 have ha : ∀ W, (isAgg 214).run Tryz.prog W = .ok false W := fun W => by kernel_rfl
 have he : ∀ (W : World) (a b : Int), (Op.equalIn (d + 1) 214 (.int .u64 a) (.int .u64 b)).run Tryz.prog W = .ok (a == b) W := fun W a b => run_equalIn_int W d _ .u64 .u64 a b Tryz.underlying214
 have hp : ∀ (W : World) (a b c e : Int) (i : Nat) (v : Value), #[Value.int .u64 a, .int .u64 b, .int .u64 c, .int .u64 e][i]? = some v → (part 214 #[.int .u64 a, .int .u64 b, .int .u64 c, .int .u64 e] i).run Tryz.prog W = .ok v W := fun W a b c e i v h => by
  simp [part, ha, h]
 rw [show d + 2 = (d + 1) + 1 from rfl]
 simp only [Op.equalIn, Sem.run_bind, run_underlying hu, Result.andThen_ok, hs, Std.Legacy.Range.forIn_eq_forIn_range', Std.Legacy.Range.size, Nat.sub_zero, Nat.add_one_sub_one, Nat.div_one]
 simp only [show List.range' 0 4 1 = [0, 1, 2, 3] from rfl, List.forIn_cons, List.forIn_nil, Sem.run_bind, Nat.mul_one]
 cases h0 : (c0 == z0) <;> cases h1 : (c1 == z1) <;> cases h2 : (c2 == z2) <;> cases h3 : (c3 == z3)
 all_goals simp [hp _ _ _ _ _ 0 _ rfl, hp _ _ _ _ _ 1 _ rfl, hp _ _ _ _ _ 2 _ rfl, hp _ _ _ _ _ 3 _ rfl, he, h0, h1, h2, h3]
theorem eq_run (c0 c1 c2 c3 z0 z1 z2 z3 : Int) (W : World) : (binOp .eql 216 (aggU c0 c1 c2 c3) (aggU z0 z1 z2 z3)).run Tryz.prog W = .ok (.bool ((c0 == z0) && ((c1 == z1) && ((c2 == z2) && (c3 == z3))))) W := by
 rw [run_eql_struct, eq_arr 9998]
 rfl
theorem eq_guard : Tryz.prog.eqGuardType Tryz.prog.depth 216 = false := by kernel_rfl
theorem refInside_any (a0 a1 a2 a3 b0 b1 b2 b3 : Int) (w : World) : Calls Tryz.prog 131 #[aggU a0 a1 a2 a3, aggU b0 b1 b2 b3] w fun e w' => e = .returned (.bool (insB a0 a1 a2 a3 b0 b1 b2 b3)) ∧ Below w.heap.size w w' := by
 have he : Hid (insB a0 a1 a2 a3 b0 b1 b2 b3 = ((fU a0 b0 == 0) && ((fU a1 b1 == 0) && ((fU a2 b2 == 0) && (fU a3 b3 == 0))))) := rfl
 go_in
 go_wp2_with fail
 refine (refSub_any a0 a1 a2 a3 b0 b1 b2 b3 _).mono ?_
 rintro e w4 ⟨rfl, hb⟩
 have HB : Hid (Below w.heap.size w w4) := Hd ((((Below.refl _ _).alloc (Nat.le_refl _) _).alloc (by simp) _).trans (hb.mono (by simp; omega)))
 clear hb
 generalize fU a0 b0 = c0 at *
 generalize fU a1 b1 = c1 at *
 generalize fU a2 b2 = c2 at *
 generalize fU a3 b3 = c3 at *
 have hq := eq_run c0 c1 c2 c3 0 0 0 0
 have hg := eq_guard
 go_wp2_with fail
 go_ret
 exact ⟨by rw [he.out]; rfl, HB.out⟩
end
section
set_option maxRecDepth 100000
set_option maxHeartbeats 2000000
open Go.RowKit
structure W4 where
 a0 : Nat
 a1 : Nat
 a2 : Nat
 a3 : Nat
structure W4.Ok (s : W4) : Prop where
 h0 : s.a0 < 18446744073709551616
 h1 : s.a1 < 18446744073709551616
 h2 : s.a2 < 18446744073709551616
 h3 : s.a3 < 18446744073709551616
abbrev aggW (s : W4) : Value := aggU (s.a0 : Int) (s.a1 : Int) (s.a2 : Int) (s.a3 : Int)
def W4.get (s : W4) (q : Nat) : Nat := if q = 0 then s.a0 else if q = 1 then s.a1 else if q = 2 then s.a2 else s.a3
def W4.put (s : W4) (q v : Nat) : W4 := if q = 0 then { s with a0 := v } else if q = 1 then { s with a1 := v } else if q = 2 then { s with a2 := v } else { s with a3 := v }
def zW : W4 := ⟨0, 0, 0, 0⟩
theorem zW_ok : zW.Ok := by constructor <;> decide
theorem W4.ext4 {s t : W4} (h0 : s.a0 = t.a0) (h1 : s.a1 = t.a1) (h2 : s.a2 = t.a2) (h3 : s.a3 = t.a3) : s = t := by
 cases s; cases t; simp_all
theorem W4.Ok.get {s : W4} (h : s.Ok) (q : Nat) : s.get q < 18446744073709551616 := by
 unfold W4.get; split
 ·exact h.h0
 split
 ·exact h.h1
 split
 ·exact h.h2
 ·exact h.h3
theorem W4.Ok.put {s : W4} (h : s.Ok) (q : Nat) {v : Nat} (hv : v < 18446744073709551616) : (s.put q v).Ok := by
 unfold W4.put
 split
 ·exact ⟨hv, h.h1, h.h2, h.h3⟩
 split
 ·exact ⟨h.h0, hv, h.h2, h.h3⟩
 split
 ·exact ⟨h.h0, h.h1, hv, h.h3⟩
 ·exact ⟨h.h0, h.h1, h.h2, hv⟩
theorem W4.get_put {s : W4} {q v : Nat} (hq : q < 4) (p : Nat) (hp : p < 4) : (s.put q v).get p = if p = q then v else s.get p := by
 rcases (show q = 0 ∨ q = 1 ∨ q = 2 ∨ q = 3 by omega) with rfl | rfl | rfl | rfl <;> rcases (show p = 0 ∨ p = 1 ∨ p = 2 ∨ p = 3 by omega) with rfl | rfl | rfl | rfl <;> simp [W4.put, W4.get]
theorem W4.eq_of_get {s t : W4} (h : ∀ q, q < 4 → s.get q = t.get q) : s = t := by
 have e0 := h 0 (by omega); have e1 := h 1 (by omega); have e2 := h 2 (by omega); have e3 := h 3 (by omega)
 simp [W4.get] at e0 e1 e2 e3
 exact W4.ext4 e0 e1 e2 e3
def memM (s : W4) (n : Int) : Bool := decide (0 ≤ n ∧ n < 256) && (s.get (n.toNat / 64)).testBit (n.toNat % 64)
def withM (s : W4) (n : Int) : W4 := if 0 ≤ n ∧ n < 256 then s.put (n.toNat / 64) (s.get (n.toNat / 64) ||| 2 ^ (n.toNat % 64)) else s
theorem pow_lt64 {r : Nat} (hr : r < 64) : 2 ^ r < 18446744073709551616 := by
 calc 2 ^ r < 2 ^ 64 := Nat.pow_lt_pow_right (by decide) hr
  _ = 18446744073709551616 := by decide
theorem or_lt64 {a b : Nat} (ha : a < 18446744073709551616) (hb : b < 18446744073709551616) : a ||| b < 18446744073709551616 := Nat.or_lt_two_pow (n := 64) ha hb
theorem withM_ok {s : W4} (h : s.Ok) (n : Int) : (withM s n).Ok := by
 unfold withM
 split
 ·exact h.put _ (or_lt64 (h.get _) (pow_lt64 (Nat.mod_lt _ (by decide))))
 ·exact h
theorem add_or {a r : Nat} (ha : a < 18446744073709551616) (hr : r < 64) (h : a.testBit r = false) : a + 2 ^ r = a ||| 2 ^ r := by
 have hp := pow_lt64 hr
 have hand : a &&& 2 ^ r = 0 := by
  apply Nat.eq_of_testBit_eq
  intro i
  rw [Nat.testBit_and, Nat.testBit_two_pow, Nat.zero_testBit]
  by_cases hi : r = i
  ·subst hi; simp [h]
  ·simp [hi]
 have hx := BitVec.add_eq_or_of_and_eq_zero (w := 65) (BitVec.ofNat 65 a) (BitVec.ofNat 65 (2 ^ r)) (by
  rw [← BitVec.ofNat_and, hand])
 have hx2 := congrArg BitVec.toNat hx
 rw [BitVec.toNat_add, BitVec.toNat_or, BitVec.toNat_ofNat, BitVec.toNat_ofNat, Nat.mod_eq_of_lt (by omega : a < 2 ^ 65), Nat.mod_eq_of_lt (by omega : 2 ^ r < 2 ^ 65), Nat.mod_eq_of_lt (by omega : a + 2 ^ r < 2 ^ 65)] at hx2
 exact hx2
theorem memM_in {s : W4} {n : Nat} (hn : n < 256) : memM s (n : Int) = (s.get (n / 64)).testBit (n % 64) := by
 unfold memM
 simp
 omega
theorem withM_in {s : W4} {n : Nat} (hn : n < 256) : withM s (n : Int) = s.put (n / 64) (s.get (n / 64) ||| 2 ^ (n % 64)) := by
 unfold withM
 rw [if_pos (by omega)]
 simp
theorem withM_add {s : W4} (h : s.Ok) {n : Nat} (hn : n < 256) (hm : memM s (n : Int) = false) : s.put (n / 64) (s.get (n / 64) + 2 ^ (n % 64)) = withM s (n : Int) ∧ s.get (n / 64) + 2 ^ (n % 64) < 18446744073709551616 := by
 rw [memM_in hn] at hm
 have e := add_or (h.get (n / 64)) (Nat.mod_lt n (by decide : 0 < 64)) hm
 rw [withM_in hn, e]
 exact ⟨rfl, or_lt64 (h.get _) (pow_lt64 (Nat.mod_lt _ (by decide)))⟩
theorem memM_with {s : W4} {n : Nat} (hn : n < 256) (m : Nat) (hm : m < 256) : memM (withM s (n : Int)) (m : Int) = (memM s (m : Int) || decide (m = n)) := by
 rw [memM_in hm, memM_in hm, withM_in hn, W4.get_put (by omega) _ (by omega)]
 by_cases hq : m / 64 = n / 64
 ·rw [if_pos hq, Nat.testBit_or, Nat.testBit_two_pow, hq]
  congr 1
  apply decide_eq_decide.2
  omega
 ·rw [if_neg hq]
  have : ¬ m = n := fun e => hq (by rw [e])
  simp [this]
theorem below3 {w W : World} {g : Nat} (h : Below w.heap.size w W) (hg : w.heap.size ≤ g) (a b c d : Value) : Below w.heap.size w ((((W.setCell ⟨g, 0, none⟩ a).setCell ⟨g, 1, none⟩ b).setCell ⟨g, 2, none⟩ c).setCell ⟨g, 3, none⟩ d) :=
 (((h.setCell (p := ⟨g, 0, none⟩) hg _).setCell (p := ⟨g, 1, none⟩) hg _).setCell (p := ⟨g, 2, none⟩) hg _).setCell (p := ⟨g, 3, none⟩) hg _
theorem nat_wrap {r : Nat} (hr : r < 64) : IntKind.u64.wrap (2 ^ r) = 2 ^ r := by
 have h1 : 2 ^ r < 18446744073709551616 := pow_lt64 hr
 have h2 : ((2 ^ r : Nat) : Int) = 2 ^ r := by simp
 have h3 : (0 : Int) ≤ 2 ^ r := by rw [← h2]; exact Int.natCast_nonneg _
 have h4 : (2 : Int) ^ r < 18446744073709551616 := by rw [← h2]; exact Int.ofNat_lt.2 h1
 rw [IntKind.wrap_u64]
 exact Int.emod_eq_of_lt h3 h4
def IsW (s : W4) (w : World) (e : Ending) (w' : World) : Prop := e = .returned (aggW s) ∧ Below w.heap.size w w'
structure TwoW (w W : World) (s : W4) : Prop where
 r0 : W.cell? ⟨w.heap.size, 0, none⟩ = some (.int .u64 0)
 r1 : W.cell? ⟨w.heap.size, 1, none⟩ = some (.int .u64 0)
 r2 : W.cell? ⟨w.heap.size, 2, none⟩ = some (.int .u64 0)
 r3 : W.cell? ⟨w.heap.size, 3, none⟩ = some (.int .u64 0)
 fr : ∀ j, W.frozen? ⟨w.heap.size, j, none⟩ = false
 sc : ∀ q, q < 4 → W.cell? ⟨w.heap.size + 1, q, none⟩ = some (.int .u64 (s.get q : Int))
 fs : ∀ j, W.frozen? ⟨w.heap.size + 1, j, none⟩ = false
 bw : Below w.heap.size w W
 sz : w.heap.size + 1 < W.heap.size
 ok : s.Ok
theorem TwoW.s0 {w W : World} {s : W4} (h : TwoW w W s) : W.cell? ⟨w.heap.size + 1, 0, none⟩ = some (.int .u64 (s.a0 : Int)) := h.sc 0 (by omega)
theorem TwoW.s1 {w W : World} {s : W4} (h : TwoW w W s) : W.cell? ⟨w.heap.size + 1, 1, none⟩ = some (.int .u64 (s.a1 : Int)) := h.sc 1 (by omega)
theorem TwoW.s2 {w W : World} {s : W4} (h : TwoW w W s) : W.cell? ⟨w.heap.size + 1, 2, none⟩ = some (.int .u64 (s.a2 : Int)) := h.sc 2 (by omega)
theorem TwoW.s3 {w W : World} {s : W4} (h : TwoW w W s) : W.cell? ⟨w.heap.size + 1, 3, none⟩ = some (.int .u64 (s.a3 : Int)) := h.sc 3 (by omega)
theorem TwoW.start (w : World) : TwoW w ((w.alloc (.cells #[.int .u64 0, .int .u64 0, .int .u64 0, .int .u64 0] 216)).alloc (.cells #[.int .u64 0, .int .u64 0, .int .u64 0, .int .u64 0] 216)) zW := by
 constructor
 case bw => exact ((Below.refl _ _).alloc (Nat.le_refl _) _).alloc (by simp) _
 case sc =>
  intro q hq
  rcases (show q = 0 ∨ q = 1 ∨ q = 2 ∨ q = 3 by omega) with rfl | rfl | rfl | rfl <;> simp [go_sem, zW, W4.get]
 case ok => exact zW_ok
 all_goals simp [go_sem]
theorem TwoW.putq {w W : World} {s : W4} (h : TwoW w W s) (q : Nat) (hq : q < 4) (v : Nat) (t : W4) (ht : s.put q v = t) (hv : t.Ok) : TwoW w (W.setCell ⟨w.heap.size + 1, q, none⟩ (.int .u64 (v : Int))) t := by
 have n1 : ¬ w.heap.size + 1 = w.heap.size := by omega
 constructor
 case bw => exact h.bw.setCell (p := ⟨w.heap.size + 1, q, none⟩) (by show w.heap.size ≤ w.heap.size + 1; omega) _
 case sz => have := h.sz; simpa using this
 case fr => intro j; simpa [go_sem] using h.fr j
 case fs => intro j; simpa [go_sem] using h.fs j
 case sc =>
  intro p hp
  rw [← ht, W4.get_put hq p hp]
  by_cases e : p = q
  ·subst e
   rw [if_pos rfl]
   have := h.sc p hp
   simp [go_sem, this]
  ·rw [if_neg e, World.cell?_setCell_other _ _ _ _ (by simp; try omega)]
   exact h.sc p hp
 case ok => exact hv
 all_goals simp [go_sem, h.r0, h.r1, h.r2, h.r3, n1]
def foldW (s : W4) (xs : List Int) : W4 := xs.foldl withM s
def rangeW (lo : Int) (k : Nat) : W4 := foldW zW ((List.range k).map fun (i : Nat) => lo + (i : Int))
theorem rangeW_succ (lo : Int) (k : Nat) : rangeW lo (k + 1) = withM (rangeW lo k) (lo + (k : Int)) := by
 unfold rangeW foldW
 rw [List.range_succ, List.map_append, List.foldl_append]
 rfl
theorem rangeW_zero (lo : Int) : rangeW lo 0 = zW := rfl
def rangeM (f t : Int) : W4 := rangeW (max f 0) (min t 256 - max f 0).toNat
theorem add_wrap {a r : Nat} (hs : a + 2 ^ r < 18446744073709551616) : IntKind.u64.wrap ((a : Int) + 2 ^ r) = ((a + 2 ^ r : Nat) : Int) := by
 have h2 : ((2 ^ r : Nat) : Int) = 2 ^ r := by simp
 rw [← h2, ← Int.natCast_add, IntKind.wrap_u64]
 exact Int.emod_eq_of_lt (Int.natCast_nonneg _) (Int.ofNat_lt.2 hs)
theorem rangeW_memF (lo : Int) (h0 : 0 ≤ lo) : ∀ k : Nat, lo + (k : Int) ≤ 256 → ∀ m : Nat, m < 256 → memM (rangeW lo k) (m : Int) = decide (lo ≤ (m : Int) ∧ (m : Int) < lo + (k : Int)) := by
 intro k
 induction k with
 | zero =>
  intro _ m hm
  rw [rangeW_zero, memM_in hm]
  have : (zW.get (m / 64)).testBit (m % 64) = false := by
   unfold zW W4.get
   simp
  rw [this]
  simp
  try omega
 | succ k ih =>
  intro hk m hm
  obtain ⟨l, hl⟩ : ∃ l : Nat, (l : Int) = lo + (k : Int) := ⟨(lo + (k : Int)).toNat, by omega⟩
  rw [rangeW_succ, ← hl, memM_with (by omega) m hm, ih (by omega) m hm, ← Bool.decide_or]
  apply decide_eq_decide.2
  omega
theorem rangeW_not (lo : Int) (k : Nat) (h0 : 0 ≤ lo) (h1 : lo + (k : Int) < 256) : memM (rangeW lo k) (lo + (k : Int)) = false := by
 obtain ⟨m, hm⟩ : ∃ m : Nat, (m : Int) = lo + (k : Int) := ⟨(lo + (k : Int)).toNat, by omega⟩
 rw [← hm, rangeW_memF lo h0 k (by omega) m (by omega)]
 simp
 omega
theorem rrange_a (f t : Int) (w : World) (hf : f < 0) (ht : 256 < t) (hb0 : -9223372036854775808 ≤ f) (hb1 : f < 9223372036854775808) : Calls Tryz.prog 157 #[.int .i64 f, .int .i64 t] w (IsW (rangeW (0 : Int) ((256 : Int) - (0 : Int)).toNat) w) := by
 have HS := Hd (TwoW.start w)
 obtain ⟨N, hN⟩ : ∃ N, ((256 : Int) - (0 : Int)).toNat = N := ⟨_, rfl⟩
 rw [hN]
 have hm : max f 0 = 0 := by omega
 go_in
 go_wp2_with fail
 go_loopw [6] (fun i wr => ∃ k : Nat, i = .int .i64 ((0 : Int) + (k : Int)) ∧ k ≤ N ∧ Hid (TwoW w wr (rangeW (0 : Int) k))) (fun i _ => N - (intOf i - (0 : Int)).toNat)
 case atStart => exact ⟨0, by simp, Nat.zero_le _, HS⟩
 case round =>
  obtain ⟨k, rfl, hk, HT⟩ := hrel
  have s0 := HT.out.s0
  have s1 := HT.out.s1
  have s2 := HT.out.s2
  have s3 := HT.out.s3
  have fs := HT.out.fs
  obtain ⟨i, hi'⟩ : ∃ i : Int, (0 : Int) + (k : Int) = i := ⟨_, rfl⟩
  by_cases hlt : k < N
  ·have hil : i < (256 : Int) := by omega
   have HX : Hid (rangeW (0 : Int) (k + 1) = withM (rangeW (0 : Int) k) i) := Hd (by rw [rangeW_succ, hi'])
   have hok := HT.out.ok
   have hiw : IntKind.i64.wrap (i + 1) = i + 1 := by rw [IntKind.wrap_i64]; omega
   obtain ⟨m, hmt⟩ : ∃ m : Nat, (m : Int) = i := ⟨i.toNat, by omega⟩
   have hm256 : m < 256 := by omega
   have hmem : memM (rangeW (0 : Int) k) (m : Int) = false := by
    rw [hmt, ← hi']
    exact rangeW_not (0 : Int) k (by omega) (by omega)
   rw [hi']
   have HQ := Hd hi'
   generalize rangeW (0 : Int) k = s at *
   have hmi : min t 256 = 256 := by omega
   have q4 : m / 64 < 4 := by omega
   obtain ⟨q, hqd⟩ : ∃ q, m / 64 = q := ⟨_, rfl⟩
   obtain ⟨r, hrd⟩ : ∃ r, m % 64 = r := ⟨_, rfl⟩
   have hadd := withM_add hok (n := m) hm256 hmem
   rw [hqd, hrd] at hadd
   have HP := Hd (fun W (hW : TwoW w W s) => hW.putq q (by omega) (s.get q + 2 ^ r) (withM s (m : Int)) hadd.1 (withM_ok hok _))
   have hr : r < 64 := by omega
   have hq4 : q < 4 := by omega
   have hsq := fun W (hW : TwoW w W s) => hW.sc q hq4
   have hwadd := add_wrap hadd.2
   have hp := nat_wrap hr
   have hq : i.tdiv 64 = (q : Int) := by rw [Int.tdiv_eq_ediv_of_nonneg (by omega)]; omega
   have hmd : i.tmod 64 = (r : Int) := by rw [Int.tmod_eq_emod_of_nonneg (by omega)]; omega
   have hw : IntKind.i64.wrap (r : Int) = r := by rw [IntKind.wrap_i64]; omega
   have hw1 : IntKind.i64.wrap (q : Int) = q := by rw [IntKind.wrap_i64]; omega
   rw [hmt] at HP
   have z0 := hsq wr HT.out
   have HT2 := Hd (HP.out wr HT.out)
   generalize s.get q = a at *
   clear hok hmem hadd hqd hrd hmt hm256 q4 hsq HP hi'
   go_wp2_with fail
   go_roundw
   case rel => exact ⟨k + 1, by have := HQ.out; congr 1; omega, by omega, Hd (by rw [HX.out]; exact HT2.out)⟩
   case measure => have := HQ.out; simp [intOf]; omega
  ·have hkn : k = N := by omega
   subst hkn
   have hil : ¬ i < (256 : Int) := by omega
   have r0 := HT.out.r0
   have r1 := HT.out.r1
   have r2 := HT.out.r2
   have r3 := HT.out.r3
   have fr := HT.out.fr
   rw [hi']
   generalize rangeW (0 : Int) k = s at *
   have hne : ¬ w.heap.size = w.heap.size + 1 := by omega
   have hne' : ¬ w.heap.size + 1 = w.heap.size := by omega
   have hmi : min t 256 = 256 := by omega
   clear hi'
   go_wp2_with fail
   refine bodyPost_ret (v := aggW s) (by simp [results, Tryz.results157, go_sem, r0, r1, r2, r3, fr, s0, s1, s2, s3, hne, hne']) rfl ⟨rfl, ?_⟩
   exact below3 HT.out.bw (Nat.le_refl _) _ _ _ _
theorem rrange_b (f t : Int) (w : World) (hf : f < 0) (ht : t ≤ 256) (hb0 : -9223372036854775808 ≤ f) (hb1 : f < 9223372036854775808) : Calls Tryz.prog 157 #[.int .i64 f, .int .i64 t] w (IsW (rangeW (0 : Int) (t - (0 : Int)).toNat) w) := by
 have HS := Hd (TwoW.start w)
 obtain ⟨N, hN⟩ : ∃ N, (t - (0 : Int)).toNat = N := ⟨_, rfl⟩
 rw [hN]
 have hm : max f 0 = 0 := by omega
 go_in
 go_wp2_with fail
 go_loopw [6] (fun i wr => ∃ k : Nat, i = .int .i64 ((0 : Int) + (k : Int)) ∧ k ≤ N ∧ Hid (TwoW w wr (rangeW (0 : Int) k))) (fun i _ => N - (intOf i - (0 : Int)).toNat)
 case atStart => exact ⟨0, by simp, Nat.zero_le _, HS⟩
 case round =>
  obtain ⟨k, rfl, hk, HT⟩ := hrel
  have s0 := HT.out.s0
  have s1 := HT.out.s1
  have s2 := HT.out.s2
  have s3 := HT.out.s3
  have fs := HT.out.fs
  obtain ⟨i, hi'⟩ : ∃ i : Int, (0 : Int) + (k : Int) = i := ⟨_, rfl⟩
  by_cases hlt : k < N
  ·have hil : i < t := by omega
   have HX : Hid (rangeW (0 : Int) (k + 1) = withM (rangeW (0 : Int) k) i) := Hd (by rw [rangeW_succ, hi'])
   have hok := HT.out.ok
   have hiw : IntKind.i64.wrap (i + 1) = i + 1 := by rw [IntKind.wrap_i64]; omega
   obtain ⟨m, hmt⟩ : ∃ m : Nat, (m : Int) = i := ⟨i.toNat, by omega⟩
   have hm256 : m < 256 := by omega
   have hmem : memM (rangeW (0 : Int) k) (m : Int) = false := by
    rw [hmt, ← hi']
    exact rangeW_not (0 : Int) k (by omega) (by omega)
   rw [hi']
   have HQ := Hd hi'
   generalize rangeW (0 : Int) k = s at *
   have hmi : min t 256 = t := by omega
   have hnt : ¬ 256 < t := by omega
   have q4 : m / 64 < 4 := by omega
   obtain ⟨q, hqd⟩ : ∃ q, m / 64 = q := ⟨_, rfl⟩
   obtain ⟨r, hrd⟩ : ∃ r, m % 64 = r := ⟨_, rfl⟩
   have hadd := withM_add hok (n := m) hm256 hmem
   rw [hqd, hrd] at hadd
   have HP := Hd (fun W (hW : TwoW w W s) => hW.putq q (by omega) (s.get q + 2 ^ r) (withM s (m : Int)) hadd.1 (withM_ok hok _))
   have hr : r < 64 := by omega
   have hq4 : q < 4 := by omega
   have hsq := fun W (hW : TwoW w W s) => hW.sc q hq4
   have hwadd := add_wrap hadd.2
   have hp := nat_wrap hr
   have hq : i.tdiv 64 = (q : Int) := by rw [Int.tdiv_eq_ediv_of_nonneg (by omega)]; omega
   have hmd : i.tmod 64 = (r : Int) := by rw [Int.tmod_eq_emod_of_nonneg (by omega)]; omega
   have hw : IntKind.i64.wrap (r : Int) = r := by rw [IntKind.wrap_i64]; omega
   have hw1 : IntKind.i64.wrap (q : Int) = q := by rw [IntKind.wrap_i64]; omega
   rw [hmt] at HP
   have z0 := hsq wr HT.out
   have HT2 := Hd (HP.out wr HT.out)
   generalize s.get q = a at *
   clear hok hmem hadd hqd hrd hmt hm256 q4 hsq HP hi'
   go_wp2_with fail
   go_roundw
   case rel => exact ⟨k + 1, by have := HQ.out; congr 1; omega, by omega, Hd (by rw [HX.out]; exact HT2.out)⟩
   case measure => have := HQ.out; simp [intOf]; omega
  ·have hkn : k = N := by omega
   subst hkn
   have hil : ¬ i < t := by omega
   have r0 := HT.out.r0
   have r1 := HT.out.r1
   have r2 := HT.out.r2
   have r3 := HT.out.r3
   have fr := HT.out.fr
   rw [hi']
   generalize rangeW (0 : Int) k = s at *
   have hne : ¬ w.heap.size = w.heap.size + 1 := by omega
   have hne' : ¬ w.heap.size + 1 = w.heap.size := by omega
   have hmi : min t 256 = t := by omega
   have hnt : ¬ 256 < t := by omega
   clear hi'
   go_wp2_with fail
   refine bodyPost_ret (v := aggW s) (by simp [results, Tryz.results157, go_sem, r0, r1, r2, r3, fr, s0, s1, s2, s3, hne, hne']) rfl ⟨rfl, ?_⟩
   exact below3 HT.out.bw (Nat.le_refl _) _ _ _ _
theorem rrange_c (f t : Int) (w : World) (hf : 0 ≤ f) (ht : 256 < t) (hb0 : -9223372036854775808 ≤ f) (hb1 : f < 9223372036854775808) : Calls Tryz.prog 157 #[.int .i64 f, .int .i64 t] w (IsW (rangeW f ((256 : Int) - f).toNat) w) := by
 have HS := Hd (TwoW.start w)
 obtain ⟨N, hN⟩ : ∃ N, ((256 : Int) - f).toNat = N := ⟨_, rfl⟩
 rw [hN]
 have hm : max f 0 = f := by omega
 have hnf : ¬ f < 0 := by omega
 go_in
 go_wp2_with fail
 go_loopw [6] (fun i wr => ∃ k : Nat, i = .int .i64 (f + (k : Int)) ∧ k ≤ N ∧ Hid (TwoW w wr (rangeW f k))) (fun i _ => N - (intOf i - f).toNat)
 case atStart => exact ⟨0, by simp, Nat.zero_le _, HS⟩
 case round =>
  obtain ⟨k, rfl, hk, HT⟩ := hrel
  have s0 := HT.out.s0
  have s1 := HT.out.s1
  have s2 := HT.out.s2
  have s3 := HT.out.s3
  have fs := HT.out.fs
  obtain ⟨i, hi'⟩ : ∃ i : Int, f + (k : Int) = i := ⟨_, rfl⟩
  by_cases hlt : k < N
  ·have hil : i < (256 : Int) := by omega
   have HX : Hid (rangeW f (k + 1) = withM (rangeW f k) i) := Hd (by rw [rangeW_succ, hi'])
   have hok := HT.out.ok
   have hiw : IntKind.i64.wrap (i + 1) = i + 1 := by rw [IntKind.wrap_i64]; omega
   obtain ⟨m, hmt⟩ : ∃ m : Nat, (m : Int) = i := ⟨i.toNat, by omega⟩
   have hm256 : m < 256 := by omega
   have hmem : memM (rangeW f k) (m : Int) = false := by
    rw [hmt, ← hi']
    exact rangeW_not f k (by omega) (by omega)
   rw [hi']
   have HQ := Hd hi'
   generalize rangeW f k = s at *
   have hmi : min t 256 = 256 := by omega
   have q4 : m / 64 < 4 := by omega
   obtain ⟨q, hqd⟩ : ∃ q, m / 64 = q := ⟨_, rfl⟩
   obtain ⟨r, hrd⟩ : ∃ r, m % 64 = r := ⟨_, rfl⟩
   have hadd := withM_add hok (n := m) hm256 hmem
   rw [hqd, hrd] at hadd
   have HP := Hd (fun W (hW : TwoW w W s) => hW.putq q (by omega) (s.get q + 2 ^ r) (withM s (m : Int)) hadd.1 (withM_ok hok _))
   have hr : r < 64 := by omega
   have hq4 : q < 4 := by omega
   have hsq := fun W (hW : TwoW w W s) => hW.sc q hq4
   have hwadd := add_wrap hadd.2
   have hp := nat_wrap hr
   have hq : i.tdiv 64 = (q : Int) := by rw [Int.tdiv_eq_ediv_of_nonneg (by omega)]; omega
   have hmd : i.tmod 64 = (r : Int) := by rw [Int.tmod_eq_emod_of_nonneg (by omega)]; omega
   have hw : IntKind.i64.wrap (r : Int) = r := by rw [IntKind.wrap_i64]; omega
   have hw1 : IntKind.i64.wrap (q : Int) = q := by rw [IntKind.wrap_i64]; omega
   rw [hmt] at HP
   have z0 := hsq wr HT.out
   have HT2 := Hd (HP.out wr HT.out)
   generalize s.get q = a at *
   clear hok hmem hadd hqd hrd hmt hm256 q4 hsq HP hi'
   go_wp2_with fail
   go_roundw
   case rel => exact ⟨k + 1, by have := HQ.out; congr 1; omega, by omega, Hd (by rw [HX.out]; exact HT2.out)⟩
   case measure => have := HQ.out; simp [intOf]; omega
  ·have hkn : k = N := by omega
   subst hkn
   have hil : ¬ i < (256 : Int) := by omega
   have r0 := HT.out.r0
   have r1 := HT.out.r1
   have r2 := HT.out.r2
   have r3 := HT.out.r3
   have fr := HT.out.fr
   rw [hi']
   generalize rangeW f k = s at *
   have hne : ¬ w.heap.size = w.heap.size + 1 := by omega
   have hne' : ¬ w.heap.size + 1 = w.heap.size := by omega
   have hmi : min t 256 = 256 := by omega
   clear hi'
   go_wp2_with fail
   refine bodyPost_ret (v := aggW s) (by simp [results, Tryz.results157, go_sem, r0, r1, r2, r3, fr, s0, s1, s2, s3, hne, hne']) rfl ⟨rfl, ?_⟩
   exact below3 HT.out.bw (Nat.le_refl _) _ _ _ _
theorem rrange_d (f t : Int) (w : World) (hf : 0 ≤ f) (ht : t ≤ 256) (hb0 : -9223372036854775808 ≤ f) (hb1 : f < 9223372036854775808) : Calls Tryz.prog 157 #[.int .i64 f, .int .i64 t] w (IsW (rangeW f (t - f).toNat) w) := by
 have HS := Hd (TwoW.start w)
 obtain ⟨N, hN⟩ : ∃ N, (t - f).toNat = N := ⟨_, rfl⟩
 rw [hN]
 have hm : max f 0 = f := by omega
 have hnf : ¬ f < 0 := by omega
 go_in
 go_wp2_with fail
 go_loopw [6] (fun i wr => ∃ k : Nat, i = .int .i64 (f + (k : Int)) ∧ k ≤ N ∧ Hid (TwoW w wr (rangeW f k))) (fun i _ => N - (intOf i - f).toNat)
 case atStart => exact ⟨0, by simp, Nat.zero_le _, HS⟩
 case round =>
  obtain ⟨k, rfl, hk, HT⟩ := hrel
  have s0 := HT.out.s0
  have s1 := HT.out.s1
  have s2 := HT.out.s2
  have s3 := HT.out.s3
  have fs := HT.out.fs
  obtain ⟨i, hi'⟩ : ∃ i : Int, f + (k : Int) = i := ⟨_, rfl⟩
  by_cases hlt : k < N
  ·have hil : i < t := by omega
   have HX : Hid (rangeW f (k + 1) = withM (rangeW f k) i) := Hd (by rw [rangeW_succ, hi'])
   have hok := HT.out.ok
   have hiw : IntKind.i64.wrap (i + 1) = i + 1 := by rw [IntKind.wrap_i64]; omega
   obtain ⟨m, hmt⟩ : ∃ m : Nat, (m : Int) = i := ⟨i.toNat, by omega⟩
   have hm256 : m < 256 := by omega
   have hmem : memM (rangeW f k) (m : Int) = false := by
    rw [hmt, ← hi']
    exact rangeW_not f k (by omega) (by omega)
   rw [hi']
   have HQ := Hd hi'
   generalize rangeW f k = s at *
   have hmi : min t 256 = t := by omega
   have hnt : ¬ 256 < t := by omega
   have q4 : m / 64 < 4 := by omega
   obtain ⟨q, hqd⟩ : ∃ q, m / 64 = q := ⟨_, rfl⟩
   obtain ⟨r, hrd⟩ : ∃ r, m % 64 = r := ⟨_, rfl⟩
   have hadd := withM_add hok (n := m) hm256 hmem
   rw [hqd, hrd] at hadd
   have HP := Hd (fun W (hW : TwoW w W s) => hW.putq q (by omega) (s.get q + 2 ^ r) (withM s (m : Int)) hadd.1 (withM_ok hok _))
   have hr : r < 64 := by omega
   have hq4 : q < 4 := by omega
   have hsq := fun W (hW : TwoW w W s) => hW.sc q hq4
   have hwadd := add_wrap hadd.2
   have hp := nat_wrap hr
   have hq : i.tdiv 64 = (q : Int) := by rw [Int.tdiv_eq_ediv_of_nonneg (by omega)]; omega
   have hmd : i.tmod 64 = (r : Int) := by rw [Int.tmod_eq_emod_of_nonneg (by omega)]; omega
   have hw : IntKind.i64.wrap (r : Int) = r := by rw [IntKind.wrap_i64]; omega
   have hw1 : IntKind.i64.wrap (q : Int) = q := by rw [IntKind.wrap_i64]; omega
   rw [hmt] at HP
   have z0 := hsq wr HT.out
   have HT2 := Hd (HP.out wr HT.out)
   generalize s.get q = a at *
   clear hok hmem hadd hqd hrd hmt hm256 q4 hsq HP hi'
   go_wp2_with fail
   go_roundw
   case rel => exact ⟨k + 1, by have := HQ.out; congr 1; omega, by omega, Hd (by rw [HX.out]; exact HT2.out)⟩
   case measure => have := HQ.out; simp [intOf]; omega
  ·have hkn : k = N := by omega
   subst hkn
   have hil : ¬ i < t := by omega
   have r0 := HT.out.r0
   have r1 := HT.out.r1
   have r2 := HT.out.r2
   have r3 := HT.out.r3
   have fr := HT.out.fr
   rw [hi']
   generalize rangeW f k = s at *
   have hne : ¬ w.heap.size = w.heap.size + 1 := by omega
   have hne' : ¬ w.heap.size + 1 = w.heap.size := by omega
   have hmi : min t 256 = t := by omega
   have hnt : ¬ 256 < t := by omega
   clear hi'
   go_wp2_with fail
   refine bodyPost_ret (v := aggW s) (by simp [results, Tryz.results157, go_sem, r0, r1, r2, r3, fr, s0, s1, s2, s3, hne, hne']) rfl ⟨rfl, ?_⟩
   exact below3 HT.out.bw (Nat.le_refl _) _ _ _ _
theorem rrange_any (f t : Int) (w : World) (hb0 : -9223372036854775808 ≤ f) (hb1 : f < 9223372036854775808) : Calls Tryz.prog 157 #[.int .i64 f, .int .i64 t] w (IsW (rangeM f t) w) := by
 unfold rangeM
 by_cases hf : f < 0
 ·rw [show max f 0 = 0 by omega]
  by_cases ht : 256 < t
  ·rw [show min t 256 = 256 by omega]; exact rrange_a f t w hf ht hb0 hb1
  ·rw [show min t 256 = t by omega]; exact rrange_b f t w hf (by omega) hb0 hb1
 ·rw [show max f 0 = f by omega]
  by_cases ht : 256 < t
  ·rw [show min t 256 = 256 by omega]; exact rrange_c f t w (by omega) ht hb0 hb1
  ·rw [show min t 256 = t by omega]; exact rrange_d f t w (by omega) (by omega) hb0 hb1
end
end Go.Proofs.YtobmjnmcjddhcaaGreat
