/-
  The flat stack: append out of a row of the call's own, or of one that is full.
-/
import Derived.Test.YtpladpmkpchndaaStackNil3
import Derived.Test.YtpladpmkpchndaaHeld
import Derived.ArgAppend
import Derived.Deep.AppendLies
import Derived.Deep.Onto
namespace Go.Proofs.Ytpladpmkpchndaa
open Go.RowKit
set_option linter.unusedSimpArgs false
set_option linter.unusedVariables false

/-- A value that may be appended to: it owns its row, or it is full and its cells are known. -/
def Stk (w : World) (base : Nat) (e : TypeId) (size : Nat) (v : Value) (n : Nat) (xs : List Value) : Prop :=
  w.ownsRow base e size v n xs ∨ (xs.length = n * size ∧ ∃ b : Addr, v = .slice (some b) n n ∧ base ≤ b.block ∧ b.block < w.heap.size ∧ ∀ j u, xs[j]? = some u → w.cell? (b.add j) = some u)

section
variable {P : Program} (w : World)
theorem run_append_stk (base : Nat) (t ty e : TypeId) (i : TypeInfo) (z : Value) (size bytes : Nat) (ht : P.underlying t = some (.slice e)) (hi : P.info? e = some i) (hz : i.zero = some z)
    (hsize : i.size = size) (hby : i.bytes = bytes) (hzs : z.cells.size = size) (hsz : 0 < size)
    (v : Value) (n : Nat) (xs : List Value) (hown : Stk w base e size v n xs) (ad : Addr) (m c : Nat) (hm : 0 < m) (news : List Value) (hr : SrcCells w (some ad) m size news) (h1 : ∀ u ∈ news, u.oneCell' = true)
    (h63 : n + m ≤ maxLen) (hbytes : (n + m) * bytes ≤ 140737488355328) (hbase : base ≤ w.heap.size) {w0 : World} {B : Nat} (hB : B ≤ base) (hb : Below B w0 w) :
    ∃ v' w', (Builtin.append_ #[t, t] ty #[v, .slice (some ad) m c]).run P w = .ok v' w' ∧ w'.ownsRow base e size v' (n + m) (xs ++ news) ∧ Below B w0 w' ∧ (∀ p : Addr, p.block < w.heap.size → some p.block ≠ v.ownBlock → w'.cell? p = w.cell? p ∧ w'.frozen? p = w.frozen? p) ∧ w.heap.size ≤ w'.heap.size := by
  rcases hown with hown | ⟨hl, b, rfl, hb1, hb2, hc⟩
  · obtain ⟨v', w', hrun, h2, h3, h4⟩ := run_append_src (P := P) w base t ty e i z size bytes ht hi hz hsize hby hzs hsz v n xs hown (some ad) m c news hr h1 h63 hbytes hbase
    exact ⟨v', w', hrun, h2, Below.grown hb h3 (Nat.le_trans hB hbase) (fun j hj => Nat.le_trans hB (hown.lt _ hj).1), fun p hp hq => ⟨h3.cell_far p hp hq, h3.frozen_far p hp hq⟩, h3.size⟩
  · obtain ⟨v', w', hrun, h2, h3⟩ := run_append_arg_grows (P := P) w t ty e i z size bytes ht hi hz hsize hby hzs hsz b n n xs hl hc ad m c news hr.1 (hr.2.2 ad rfl) (by omega) h63 hbytes
    exact ⟨v', w', hrun, h2.mono hbase, Below.grown hb h3 (Nat.le_trans hB hbase) (fun j hj => by cases hj), fun p hp _ => ⟨h3.cell_far p hp (by simp), h3.frozen_far p hp (by simp)⟩, h3.size⟩

theorem step_append_stk {ops : Array Oper} {o : Oper} {a : Act} {K : Act → World → Prop} {Q : Exit → Act → World → Prop} {E : Prop} (hgd : o.guard = none) (s x : Operand) (t : TypeId)
    (ho : o.op = .call { callee := .builtin .append, args := #[s, x], argTypes := #[t, t] })
    (base : Nat) (e : TypeId) (i : TypeInfo) (z : Value) (size bytes : Nat) (ht : P.underlying t = some (.slice e)) (hi : P.info? e = some i) (hz : i.zero = some z)
    (hsize : i.size = size) (hby : i.bytes = bytes) (hzs : z.cells.size = size) (hsz : 0 < size)
    (v : Value) (n : Nat) (xs : List Value) (hs : a.eval s = v) (hown : Stk w base e size v n xs) (ad : Addr) (m c : Nat) (hm : 0 < m) (news : List Value) (hx : a.eval x = .slice (some ad) m c) (hr : SrcCells w (some ad) m size news) (h1 : ∀ u ∈ news, u.oneCell' = true)
    (h63 : n + m ≤ maxLen) (hbytes : (n + m) * bytes ≤ 140737488355328) (hbase : base ≤ w.heap.size) {w0 : World} {B : Nat} (hB : B ≤ base) (hb : Below B w0 w)
    (h : ∀ v' w', w'.ownsRow base e size v' (n + m) (xs ++ news) → Below B w0 w' → (∀ p : Addr, p.block < w.heap.size → some p.block ≠ v.ownBlock → w'.cell? p = w.cell? p ∧ w'.frozen? p = w.frozen? p) → w.heap.size ≤ w'.heap.size → K (a.put o.dst v') w') :
    if Region.wanted o (yielded ops a.tmps) = true then Oper.wp P o a w K Q else E := by
  have hw : Region.wanted o (yielded ops a.tmps) = true := by simp [Region.wanted, hgd]
  rw [if_pos hw]
  obtain ⟨v', w', hrun, h2, h3, h4, h5⟩ := run_append_stk (P := P) w base t o.type e i z size bytes ht hi hz hsize hby hzs hsz v n xs hown ad m c hm news hr h1 h63 hbytes hbase hB hb
  unfold Oper.wp execOp
  simp only [ho, resolve, invoke, builtin, Sem.run_bind, Sem.run_pure, Result.andThen_ok, List.map_toArray, List.map_cons, List.map_nil, hs, hx, hrun]
  exact h v' w' h2 h3 h4 h5
end
theorem Stk.lt {w : World} {base : Nat} {e : TypeId} {size : Nat} {v : Value} {n : Nat} {xs : List Value} (h : Stk w base e size v n xs) : ∀ k, v.ownBlock = some k → base ≤ k ∧ k < w.heap.size := by
  rcases h with h | ⟨_, b, rfl, h1, h2, _⟩
  · exact h.lt
  · intro k hk
    simp [Value.ownBlock] at hk
    subst hk
    exact ⟨h1, h2⟩
theorem Stk.alloc {w : World} {base : Nat} {e : TypeId} {size : Nat} {v : Value} {n : Nat} {xs : List Value} (h : Stk w base e size v n xs) (o : Obj) : Stk (w.alloc o) base e size v n xs := by
  rcases h with h | ⟨h0, b, rfl, h1, h2, h3⟩
  · exact .inl (h.alloc o)
  · exact .inr ⟨h0, b, rfl, h1, by simp; omega, fun j u hj => (World.cell?_alloc_lt _ _ _ (World.block_lt_of_cell? _ _ (h3 j u hj))).trans (h3 j u hj)⟩
theorem own_set {w : World} {base g n c : Nat} {e : TypeId} {size : Nat} {A : Option Addr} {xs : List Value} (h : w.ownsRow base e size (.slice A n c) n xs) (hg : g < base) (o : Nat) (v : Value) : (w.setCell ⟨g, o, none⟩ v).ownsRow base e size (.slice A n c) n xs := by
  refine ⟨h.1, ?_⟩
  rcases h.2 with h2 | ⟨g', cap, cur, a, b, d, e'⟩
  · exact .inl h2
  · exact .inr ⟨g', cap, cur, a, b, by rw [heap_setCell_other w ⟨g, o, none⟩ g' v (by show g' ≠ g; omega)]; exact d, e'⟩
theorem info_val : (Try.prog.info? 27).map (fun i => (i.zero, i.size, i.bytes)) = some (some (.agg #[.int .i64 0, .int .i64 0, .complex .f64 0 0]), 3, 32) := by kernel_rfl
end Go.Proofs.Ytpladpmkpchndaa
