/-
  Worlds between which nothing has turned but what lies in certain blocks, and what is new; rows that are owned or full. Over any program.
-/
import Derived.Test.YthfdmpcnebjkjaaHeld
import Derived.ArgAppend
import Derived.Deep.AppendLies
import Derived.Deep.Onto
import Derived.Deep.RegionLaw
import Derived.Deep.Upon
namespace Go.Proofs.Ythfdmpcnebjkjaa
open Go.RowKit
set_option linter.unusedSimpArgs false
set_option linter.unusedVariables false

structure Kp (S : Nat → Prop) (w w' : World) : Prop where
  os : w'.os = w.os
  tape : w'.tape = w.tape
  output : w'.output = w.output
  size : w.heap.size ≤ w'.heap.size
  block : ∀ k, k < w.heap.size → ¬ S k → w'.heap[k]? = w.heap[k]?
theorem Kp.refl (S : Nat → Prop) (w : World) : Kp S w w := ⟨rfl, rfl, rfl, Nat.le_refl _, fun _ _ _ => rfl⟩
theorem Kp.mono {S T : Nat → Prop} {w w' : World} (h : Kp S w w') (hS : ∀ k, k < w.heap.size → S k → T k) : Kp T w w' := ⟨h.os, h.tape, h.output, h.size, fun k hk hn => h.block k hk fun hs => hn (hS k hk hs)⟩
theorem Kp.trans' {S T U : Nat → Prop} {a b c : World} (h : Kp S a b) (k : Kp T b c) (hS : ∀ k, k < a.heap.size → S k ∨ T k → U k) : Kp U a c :=
  ⟨k.os.trans h.os, k.tape.trans h.tape, k.output.trans h.output, Nat.le_trans h.size k.size, fun i hi hn => (k.block i (Nat.lt_of_lt_of_le hi h.size) fun ht => hn (hS i hi (.inr ht))).trans (h.block i hi fun hs => hn (hS i hi (.inl hs)))⟩
theorem Kp.trans {S : Nat → Prop} {a b c : World} (h : Kp S a b) (k : Kp S b c) : Kp S a c := h.trans' k fun _ _ h => h.elim id id
theorem Kp.drew {S : Nat → Prop} {a w : World} (h : Kp S a w) : Kp S a w.drew := ⟨h.os, h.tape, h.output, h.size, h.block⟩
theorem Kp.drewN {S : Nat → Prop} {a w : World} (h : Kp S a w) (n : Nat) : Kp S a (w.drewN n) := ⟨h.os, h.tape, h.output, h.size, h.block⟩
theorem Kp.alloc {S : Nat → Prop} {a w : World} (h : Kp S a w) (o : Obj) : Kp S a (w.alloc o) :=
  h.trans ⟨rfl, rfl, rfl, by simp, fun k hk _ => Below.heap_alloc _ _ _ hk⟩
theorem Kp.setCell {S : Nat → Prop} {a w : World} (h : Kp S a w) {p : Addr} (hp : p.block < a.heap.size → S p.block) (u : Value) : Kp S a (w.setCell p u) :=
  ⟨h.os, h.tape, h.output, by simpa [World.setCell] using h.size, fun k hk hn => (Below.heap_setCell _ _ _ _ (fun e => hn (by rw [e]; exact hp (by omega)))).trans (h.block k hk hn)⟩
theorem Kp.setCells {S : Nat → Prop} {a w : World} (h : Kp S a w) {g : Nat} (hp : g < a.heap.size → S g) (o : Nat) (vs : List Value) : Kp S a (w.setCells g o vs) := by
  induction vs generalizing o w with
  | nil => exact h
  | cons v vs ih => exact ih (h.setCell (p := ⟨g, o, none⟩) hp v) _
theorem Kp.ofBelow {S : Nat → Prop} {a w w' : World} (h : Kp S a w) (hb : Below w.heap.size w w') : Kp S a w' :=
  h.trans ⟨hb.os, hb.tape, hb.output, hb.size, fun k hk _ => hb.block k hk⟩
theorem Kp.ofGrown {S : Nat → Prop} {a w w' : World} {row : Option Nat} (h : Kp S a w) (hg : w.grownBy w' row) (hr : ∀ k, row = some k → k < a.heap.size → S k) : Kp S a w' :=
  ⟨hg.os.trans h.os, hg.tape.trans h.tape, hg.output.trans h.output, Nat.le_trans h.size hg.size, fun k hk hn => (hg.block k (Nat.lt_of_lt_of_le hk h.size) (fun e => hn (hr k e.symm hk))).trans (h.block k hk hn)⟩
theorem Kp.cell {S : Nat → Prop} {w w' : World} (h : Kp S w w') {p : Addr} (hp : p.block < w.heap.size) (hs : ¬ S p.block) : w'.cell? p = w.cell? p := World.cell?_of_block (h.block _ hp hs)
theorem Kp.frozen {S : Nat → Prop} {w w' : World} (h : Kp S w w') {p : Addr} (hp : p.block < w.heap.size) (hs : ¬ S p.block) : w'.frozen? p = w.frozen? p := World.frozen?_of_block (h.block _ hp hs)
theorem Kp.cellv {S : Nat → Prop} {w w' : World} (h : Kp S w w') {p : Addr} {v : Value} (hc : w.cell? p = some v) (hs : ¬ S p.block) : w'.cell? p = some v := (h.cell (World.block_lt_of_cell? _ _ hc) hs).trans hc
theorem Kp.below {S : Nat → Prop} {w w' : World} {B : Nat} (h : Kp S w w') (hB : B ≤ w.heap.size) (hS : ∀ k, S k → B ≤ k) : Below B w w' :=
  ⟨h.os, h.tape, h.output, h.size, fun k hk => h.block k (by omega) (fun hs => by have := hS k hs; omega)⟩
theorem Kp.belowOf {B : Nat} {w w' : World} (h : Below B w w') : Kp (fun k => B ≤ k) w w' := ⟨h.os, h.tape, h.output, h.size, fun k _ hn => h.block k (by omega)⟩
theorem Kp.own {S : Nat → Prop} {w w' : World} {base : Nat} {e : TypeId} {size : Nat} {v : Value} {n : Nat} {xs : List Value} (h : Kp S w w') (hown : w.ownsRow base e size v n xs) (hs : ∀ k, v.ownBlock = some k → ¬ S k) : w'.ownsRow base e size v n xs := by
  refine ⟨hown.1, ?_⟩
  rcases hown.2 with h2 | ⟨g, cap, cur, rfl, h1, h2, h3⟩
  · exact .inl h2
  · exact .inr ⟨g, cap, cur, rfl, h1, (h.block g (Array.getElem?_eq_some_iff.1 h2).1 (hs g rfl)).trans h2, h3⟩

/-- A row that is owned, or full: its block, its cells. -/
def RowF (w : World) (base : Nat) (e : TypeId) (size : Nat) (A : Option Addr) (n c : Nat) (xs : List Value) : Prop :=
  xs.length = n * size ∧ n ≤ c ∧ c ≤ maxLen ∧ ((A = none ∧ n = 0 ∧ c = 0) ∨ ∃ r cur, A = some ⟨r, 0, none⟩ ∧ base ≤ r ∧ w.heap[r]? = some (.cells cur e (0, 0)) ∧ cur.toList.take (n * size) = xs ∧ (n < c → cur.size = c * size))
theorem RowF.ofOwn {w : World} {base : Nat} {e : TypeId} {size : Nat} {A : Option Addr} {n c : Nat} {xs : List Value} (h : w.ownsRow base e size (.slice A n c) n xs) : RowF w base e size A n c xs := by
  rcases h.2 with ⟨hv, h0⟩ | ⟨g, cap, cur, hv, h1, h2, h3, h4, h5, h6⟩
  · simp only [Value.slice.injEq] at hv
    obtain ⟨rfl, rfl, rfl⟩ := hv
    exact ⟨h.1, Nat.le_refl _, by unfold maxLen; omega, .inl ⟨rfl, rfl, rfl⟩⟩
  · simp only [Value.slice.injEq, true_and] at hv
    obtain ⟨rfl, rfl⟩ := hv
    exact ⟨h.1, h3, h4, .inr ⟨g, cur, rfl, h1, h2, h6, fun _ => h5⟩⟩
theorem RowF.cells {w : World} {base : Nat} {e : TypeId} {size : Nat} {r : Nat} {n c : Nat} {xs : List Value} (h : RowF w base e size (some ⟨r, 0, none⟩) n c xs) : base ≤ r ∧ r < w.heap.size ∧ (∀ (j : Nat) u, xs[j]? = some u → w.cell? ⟨r, j, none⟩ = some u) ∧ ∀ j, w.frozen? ⟨r, j, none⟩ = false := by
  obtain ⟨hl, h1, h2, h3 | ⟨r', cur, e', hb, hh, ht, hc⟩⟩ := h
  · cases h3.1
  · injection e' with e'
    injection e' with e'
    subst e'
    refine ⟨hb, (Array.getElem?_eq_some_iff.1 hh).1, fun j u hj => ?_, fun j => ?_⟩
    · have hlt := (List.getElem?_eq_some_iff.1 hj).1
      rw [← ht, List.getElem?_take, if_pos (by omega)] at hj
      simp [World.cell?, hh]
      simpa using hj
    · simp [World.frozen?, hh]
theorem RowF.kp {S : Nat → Prop} {w w' : World} {base : Nat} {e : TypeId} {size : Nat} {A : Option Addr} {n c : Nat} {xs : List Value} (h : RowF w base e size A n c xs) (hk : Kp S w w') (hs : ∀ r, A = some ⟨r, 0, none⟩ → ¬ S r) : RowF w' base e size A n c xs := by
  obtain ⟨hl, h1, h2, h3 | ⟨r', cur, e', hb, hh, ht, hc⟩⟩ := h
  · exact ⟨hl, h1, h2, .inl h3⟩
  · exact ⟨hl, h1, h2, .inr ⟨r', cur, e', hb, (hk.block _ (Array.getElem?_eq_some_iff.1 hh).1 (hs _ e')).trans hh, ht, hc⟩⟩
theorem RowF.set {w : World} {base : Nat} {e : TypeId} {size : Nat} {A : Option Addr} {n c : Nat} {xs : List Value} (h : RowF w base e size A n c xs) (p : Addr) (hp : ∀ r, A = some ⟨r, 0, none⟩ → r ≠ p.block) (u : Value) : RowF (w.setCell p u) base e size A n c xs :=
  h.kp ((Kp.refl (fun k => k = p.block) w).setCell (fun _ => rfl) u) hp
theorem RowF.cut {w : World} {base : Nat} {e : TypeId} {size : Nat} {A : Option Addr} {n c : Nat} {xs : List Value} (h : RowF w base e size A n c xs) {k : Nat} (hk : k ≤ n) : RowF w base e size A k k (xs.take (k * size)) := by
  have hm : k * size ≤ n * size := Nat.mul_le_mul_right _ hk
  obtain ⟨hl, h1, h2, ⟨rfl, rfl, rfl⟩ | ⟨r', cur, e', hb, hh, ht, hc⟩⟩ := h
  · have : k = 0 := by omega
    subst this
    exact ⟨by simp, Nat.le_refl _, by unfold maxLen; omega, .inl ⟨rfl, rfl, rfl⟩⟩
  · refine ⟨by rw [List.length_take, hl]; exact Nat.min_eq_left hm, Nat.le_refl _, by omega, .inr ⟨r', cur, e', hb, hh, ?_, fun h => by omega⟩⟩
    rw [← ht, List.take_take, Nat.min_eq_left hm]
theorem RowF.nil_of {w : World} {base : Nat} {e : TypeId} {size : Nat} {n c : Nat} {xs : List Value} (h : RowF w base e size none n c xs) : n = 0 ∧ c = 0 ∧ xs = [] := by
  obtain ⟨hl, h1, h2, ⟨_, rfl, rfl⟩ | ⟨r', cur, e', _⟩⟩ := h
  · exact ⟨rfl, rfl, List.eq_nil_of_length_eq_zero (by simpa using hl)⟩
  · cases e'
theorem RowF.form {w : World} {base : Nat} {e : TypeId} {size : Nat} {A : Option Addr} {n c : Nat} {xs : List Value} (h : RowF w base e size A n c xs) : (A = none ∧ n = 0 ∧ c = 0) ∨ ∃ r, A = some ⟨r, 0, none⟩ ∧ base ≤ r ∧ r < w.heap.size := by
  obtain ⟨hl, h1, h2, h3 | ⟨r', cur, e', hb, hh, _⟩⟩ := h
  · exact .inl h3
  · exact .inr ⟨r', e', hb, (Array.getElem?_eq_some_iff.1 hh).1⟩
/-- What is read of such a row. -/
theorem RowF.sl {α : Type} {sz : Nat} {f : α → List Value} (hf : ∀ x, (f x).length = sz) (hpos : 0 < sz) {w : World} {base : Nat} {e : TypeId} {bytes : Nat} {A : Option Addr} {n c : Nat} {xs : List α} (h : RowF w base e sz A n c (xs.flatMap f)) (hb : n * bytes ≤ reachBytes) :
    SlR sz bytes (RC f) w w.heap.size A n c xs := by
  have hl : xs.length = n := by
    have h1 := h.1
    rw [flatMap_len f hf] at h1
    exact Nat.eq_of_mul_eq_mul_right hpos h1
  refine ⟨hl, h.2.1, h.2.2.1, hb, fun hn => ?_⟩
  rcases h.form with ⟨_, h0, _⟩ | ⟨r, rfl, hbr, hr⟩
  · omega
  · refine ⟨r, 0, rfl, hr, fun i x hi => ⟨f x, hf x, fun j u hj => ?_, rfl⟩⟩
    have hj2 : j < sz := by rw [← hf x]; exact (List.getElem?_eq_some_iff.1 hj).1
    have := h.cells.2.2.1 (i * sz + j) u (flatMap_at f hf xs i j x u hj2 hi hj)
    rw [Nat.zero_add]
    exact this

section
variable {P : Program} (w : World)
/-- Append behind such a row. -/
theorem run_append_rowF (base : Nat) (t ty e : TypeId) (i : TypeInfo) (z : Value) (size bytes : Nat) (ht : P.underlying t = some (.slice e)) (hi : P.info? e = some i) (hz : i.zero = some z)
    (hsize : i.size = size) (hby : i.bytes = bytes) (hzs : z.cells.size = size) (hsz : 0 < size)
    (A : Option Addr) (n c : Nat) (xs : List Value) (hown : RowF w base e size A n c xs) (ad : Addr) (m c' : Nat) (hm : 0 < m) (news : List Value) (hr : SrcCells w (some ad) m size news) (h1 : ∀ u ∈ news, u.oneCell' = true)
    (h63 : n + m ≤ maxLen) (hbytes : (n + m) * bytes ≤ 140737488355328) (hbase : base ≤ w.heap.size) :
    ∃ A' c'' w', (Builtin.append_ #[t, t] ty #[.slice A n c, .slice (some ad) m c']).run P w = .ok (.slice A' (n + m) c'') w' ∧ w'.ownsRow base e size (.slice A' (n + m) c'') (n + m) (xs ++ news) ∧ Kp (fun k => A = some ⟨k, 0, none⟩) w w' ∧ (A' = A ∨ ∃ k, A' = some ⟨k, 0, none⟩ ∧ w.heap.size ≤ k) := by
  have key : ∀ (v' : Value) (w' : World), w'.ownsRow base e size v' (n + m) (xs ++ news) → ∃ A' c'', v' = .slice A' (n + m) c'' := fun v' w' h => by
    rcases h.2 with ⟨rfl, h0⟩ | ⟨g, cap, cur, rfl, _⟩
    · rw [h0]; exact ⟨_, _, rfl⟩
    · exact ⟨_, _, rfl⟩
  by_cases hnc : n < c ∨ A = none
  · have ho : w.ownsRow base e size (.slice A n c) n xs := by
      obtain ⟨hl, h1, h2, ⟨rfl, rfl, rfl⟩ | ⟨r', cur, rfl, hb, hh, ht', hc⟩⟩ := hown
      · exact ⟨hl, .inl ⟨rfl, rfl⟩⟩
      · exact ⟨hl, .inr ⟨r', c, cur, rfl, hb, hh, h1, h2, hc (hnc.resolve_right (by simp)), ht'⟩⟩
    obtain ⟨v', w', hrun, h2, h3, h4⟩ := run_append_src (P := P) w base t ty e i z size bytes ht hi hz hsize hby hzs hsz _ n xs ho (some ad) m c' news hr h1 h63 hbytes hbase
    obtain ⟨A', c'', rfl⟩ := key v' w' h2
    refine ⟨A', c'', w', hrun, h2, ⟨h3.os, h3.tape, h3.output, h3.size, fun k hk hn => h3.block k hk fun e => hn ?_⟩, ?_⟩
    · rcases hown.form with ⟨rfl, _⟩ | ⟨r, rfl, _⟩
      · cases e
      · simp [Value.ownBlock] at e
        rw [e]
    · rcases own_form h2 with ⟨A2, c2, e2, h0, hA⟩
      simp only [Value.slice.injEq, true_and] at e2
      obtain ⟨rfl, rfl⟩ := e2
      cases A' with
      | none => exact absurd (h0 rfl) (by omega)
      | some a' =>
        obtain ⟨g, rfl, hg1, hg2⟩ := hA _ rfl
        rcases h4 with h4 | h4
        · left
          rcases hown.form with ⟨rfl, _⟩ | ⟨r, rfl, _⟩
          · simp [Value.ownBlock] at h4
          · simp [Value.ownBlock] at h4
            rw [h4]
        · simp [Value.ownBlock] at h4
          exact .inr ⟨g, rfl, by omega⟩
  · have hA : A ≠ none := fun h => hnc (.inr h)
    have hc : n = c := by have := hown.2.1; omega
    subst hc
    rcases hown.form with ⟨rfl, _⟩ | ⟨r, rfl, hbr, hrl⟩
    · exact absurd rfl hA
    · obtain ⟨v', w', hrun, h2, h3⟩ := run_append_arg_grows (P := P) w t ty e i z size bytes ht hi hz hsize hby hzs hsz ⟨r, 0, none⟩ n n xs hown.1 (fun j u hj => by rw [addr_add, Nat.zero_add]; exact hown.cells.2.2.1 j u hj) ad m c' news hr.1 (hr.2.2 ad rfl) (by omega) h63 hbytes
      obtain ⟨A', c'', rfl⟩ := key v' w' (h2.mono hbase)
      refine ⟨A', c'', w', hrun, h2.mono hbase, ⟨h3.os, h3.tape, h3.output, h3.size, fun k hk hn => h3.block k hk (by simp)⟩, ?_⟩
      rcases own_form h2 with ⟨A2, c2, e2, h0, hA'⟩
      simp only [Value.slice.injEq, true_and] at e2
      obtain ⟨rfl, rfl⟩ := e2
      cases A' with
      | none => exact absurd (h0 rfl) (by omega)
      | some a' =>
        obtain ⟨g, rfl, hg1, hg2⟩ := hA' _ rfl
        exact .inr ⟨g, rfl, hg1⟩
theorem wp_append_rowF {o : Oper} {a : Act} {K : Act → World → Prop} {Q : Exit → Act → World → Prop} (s x : Operand) (t : TypeId)
    (ho : o.op = .call { callee := .builtin .append, args := #[s, x], argTypes := #[t, t] })
    (base : Nat) (e : TypeId) (i : TypeInfo) (z : Value) (size bytes : Nat) (ht : P.underlying t = some (.slice e)) (hi : P.info? e = some i) (hz : i.zero = some z)
    (hsize : i.size = size) (hby : i.bytes = bytes) (hzs : z.cells.size = size) (hsz : 0 < size)
    (A : Option Addr) (n c : Nat) (xs : List Value) (hs : a.eval s = .slice A n c) (hown : RowF w base e size A n c xs) (ad : Addr) (m c' : Nat) (hm : 0 < m) (news : List Value) (hx : a.eval x = .slice (some ad) m c') (hr : SrcCells w (some ad) m size news) (h1 : ∀ u ∈ news, u.oneCell' = true)
    (h63 : n + m ≤ maxLen) (hbytes : (n + m) * bytes ≤ 140737488355328) (hbase : base ≤ w.heap.size)
    (h : ∀ A' c'' w', w'.ownsRow base e size (.slice A' (n + m) c'') (n + m) (xs ++ news) → Kp (fun k => A = some ⟨k, 0, none⟩) w w' → (A' = A ∨ ∃ k, A' = some ⟨k, 0, none⟩ ∧ w.heap.size ≤ k) → K (a.put o.dst (.slice A' (n + m) c'')) w') : o.wp P a w K Q := by
  obtain ⟨A', c'', w', hrun, h2, h3, h4⟩ := run_append_rowF (P := P) w base t o.type e i z size bytes ht hi hz hsize hby hzs hsz A n c xs hown ad m c' hm news hr h1 h63 hbytes hbase
  unfold Oper.wp execOp
  simp only [ho, resolve, invoke, builtin, Sem.run_bind, Sem.run_pure, Result.andThen_ok, List.map_toArray, List.map_cons, List.map_nil, hs, hx, hrun]
  exact h A' c'' w' h2 h3 h4
theorem step_append_rowF {ops : Array Oper} {o : Oper} {a : Act} {K : Act → World → Prop} {Q : Exit → Act → World → Prop} {E : Prop} (hgd : o.guard = none) (s x : Operand) (t : TypeId)
    (ho : o.op = .call { callee := .builtin .append, args := #[s, x], argTypes := #[t, t] })
    (base : Nat) (e : TypeId) (i : TypeInfo) (z : Value) (size bytes : Nat) (ht : P.underlying t = some (.slice e)) (hi : P.info? e = some i) (hz : i.zero = some z)
    (hsize : i.size = size) (hby : i.bytes = bytes) (hzs : z.cells.size = size) (hsz : 0 < size)
    (A : Option Addr) (n c : Nat) (xs : List Value) (hs : a.eval s = .slice A n c) (hown : RowF w base e size A n c xs) (ad : Addr) (m c' : Nat) (hm : 0 < m) (news : List Value) (hx : a.eval x = .slice (some ad) m c') (hr : SrcCells w (some ad) m size news) (h1 : ∀ u ∈ news, u.oneCell' = true)
    (h63 : n + m ≤ maxLen) (hbytes : (n + m) * bytes ≤ 140737488355328) (hbase : base ≤ w.heap.size)
    (h : ∀ A' c'' w', w'.ownsRow base e size (.slice A' (n + m) c'') (n + m) (xs ++ news) → Kp (fun k => A = some ⟨k, 0, none⟩) w w' → (A' = A ∨ ∃ k, A' = some ⟨k, 0, none⟩ ∧ w.heap.size ≤ k) → K (a.put o.dst (.slice A' (n + m) c'')) w') :
    if Region.wanted o (yielded ops a.tmps) = true then Oper.wp P o a w K Q else E := by
  have hw : Region.wanted o (yielded ops a.tmps) = true := by simp [Region.wanted, hgd]
  rw [if_pos hw]
  exact wp_append_rowF w s x t ho base e i z size bytes ht hi hz hsize hby hzs hsz A n c xs hs hown ad m c' hm news hx hr h1 h63 hbytes hbase h
theorem wpList_append_rowF {ops : Array Oper} {rest : List Oper} {o : Oper} {a : Act} {Q : Exit → Act → World → Prop} (hgd : o.guard = none) (s x : Operand) (t : TypeId)
    (ho : o.op = .call { callee := .builtin .append, args := #[s, x], argTypes := #[t, t] })
    (base : Nat) (e : TypeId) (i : TypeInfo) (z : Value) (size bytes : Nat) (ht : P.underlying t = some (.slice e)) (hi : P.info? e = some i) (hz : i.zero = some z)
    (hsize : i.size = size) (hby : i.bytes = bytes) (hzs : z.cells.size = size) (hsz : 0 < size)
    (A : Option Addr) (n c : Nat) (xs : List Value) (hs : a.eval s = .slice A n c) (hown : RowF w base e size A n c xs) (ad : Addr) (m c' : Nat) (hm : 0 < m) (news : List Value) (hx : a.eval x = .slice (some ad) m c') (hr : SrcCells w (some ad) m size news) (h1 : ∀ u ∈ news, u.oneCell' = true)
    (h63 : n + m ≤ maxLen) (hbytes : (n + m) * bytes ≤ 140737488355328) (hbase : base ≤ w.heap.size)
    (h : ∀ A' c'' w', w'.ownsRow base e size (.slice A' (n + m) c'') (n + m) (xs ++ news) → Kp (fun k => A = some ⟨k, 0, none⟩) w w' → (A' = A ∨ ∃ k, A' = some ⟨k, 0, none⟩ ∧ w.heap.size ≤ k) → wpList P ops Q rest (a.put o.dst (.slice A' (n + m) c'')) w') : wpList P ops Q (o :: rest) a w :=
  wpList_plain hgd fun _ hK => wp_append_rowF w s x t ho base e i z size bytes ht hi hz hsize hby hzs hsz A n c xs hs hown ad m c' hm news hx hr h1 h63 hbytes hbase fun v' w' A' h2 h3 h4 => hK _ _ (h v' w' A' h2 h3 h4)
end
end Go.Proofs.Ythfdmpcnebjkjaa
