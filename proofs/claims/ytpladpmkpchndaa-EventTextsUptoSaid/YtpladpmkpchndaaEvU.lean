/-
  The readings of a run, where what is read is of bulk at most 1048576 (the second form's bound): each row is short.
-/
import Derived.Test.YtpladpmkpchndaaEvT
import Derived.JoinedCond
import Derived.Deep.CondSized
namespace Go.Proofs.Ytpladpmkpchndaa
open Go.ChangeShapes Go.WideShapes Go.ChangeAt Go.RowKit Go.Deep
set_option linter.unusedSimpArgs false
set_option linter.unusedVariables false

theorem bulk_one {H : Type} (d : DataW H) : 1 ≤ Rows.uptoBulk d := by
  cases d with
  | lit l => cases l <;> simp [Rows.uptoBulk]
  | _ => simp [Rows.uptoBulk]
theorem bulk_part {H : Type} {d : DataW H} {l : List (DataW H)} (h : d ∈ l) : Rows.uptoBulk d ≤ Rows.uptoBulkAll l := by
  induction l with
  | nil => cases h
  | cons x r ih =>
    simp only [Rows.uptoBulkAll]
    rcases List.mem_cons.1 h with rfl | e
    · omega
    · have := ih e
      omega
theorem bulk_len {H : Type} (l : List (DataW H)) : l.length ≤ Rows.uptoBulkAll l := by
  induction l with
  | nil => simp [Rows.uptoBulkAll]
  | cons x r ih =>
    have := bulk_one x
    simp only [Rows.uptoBulkAll, List.length_cons]
    omega
def ConvU (P : Program) (T : TypeId) {α : Type} (R : Rd α) : Prop := ∀ {H : Type} {enc : TypeId × Value → H} {w : World} {B fuel : Nat} {cs : List Value} {y : DataW H × List MemPlace},
  DataW.trod enc P w 0 (fun _ => true) true fuel T cs = some y → (∀ x ∈ y.2, x.block < B) → (∀ m ∈ y.1.weights P T, m ≤ reachBytes) → Rows.uptoBulk y.1 ≤ 1048576 → ∃ x, R w B cs x
theorem Conv.u {P : Program} {T : TypeId} {α : Type} {R : Rd α} (h : Conv P T R) : ConvU P T R := fun ht hp hw _ => h ht hp hw
theorem open_argU {P : Program} {T : TypeId} {α : Type} {R : Rd α} (hc : ConvU P T R) {H : Type} {enc : TypeId × Value → H} {W : World} {v : Value} {d : DataW H} {p : List MemPlace} {B : Nat}
    (h : DataW.Trod enc P W 0 (fun _ => true) true T v d p) (hp : ∀ x ∈ p, x.block < B) (hw : ∀ m ∈ d.weights P T, m ≤ reachBytes) (hk : Rows.uptoBulk d ≤ 1048576) : ∃ x, R W B v.cells.toList x := by
  obtain ⟨fuel, hf⟩ := h
  exact hc hf hp hw hk
theorem conv_slU {P : Program} {T e : TypeId} {sz bytes : Nat} {α : Type} {R : Rd α} (ht : P.underlying T = some (.slice e)) (hC : P.cellsOf e = sz) (hby : P.bytesOf e = bytes) (hpos : 0 < sz) (hR : ConvU P e R) : ConvU P T (fun w B cs xs => RSl sz bytes R w B cs xs ∧ xs.length ≤ 1048576) := by
  intro H enc w B fuel cs y h hp hw hk
  rcases open_slice ht h with ⟨rfl, _⟩ | ⟨a, len, cap, m, n, D, Pl, rfl, _, hl, hm, hmm, rfl, hi⟩
  · exact ⟨[], ⟨none, 0, 0, rfl, rfl, Nat.le_refl _, by unfold maxLen; omega, by simp, fun h => absurd h (by omega)⟩, by simp⟩
  · have hmc : m = cap := by simpa using hmm
    subst hmc
    have hs : m * bytes ≤ reachBytes := by
      have := hw ((((List.range len).map D).length + ((List.range (m - len)).map fun j => D (len + j)).length) * P.bytesOf e) (by simp [DataW.weights, ht])
      simp only [List.length_map, List.length_range] at this
      rw [hby, show len + (m - len) = m by omega] at this
      exact this
    simp only [Rows.uptoBulk] at hk
    have hlen := bulk_len ((List.range len).map D)
    rw [List.length_map, List.length_range] at hlen
    have hel : ∀ i, i < len → ∃ x, ∃ cs' : List Value, cs'.length = sz ∧ (∀ j u, cs'[j]? = some u → w.cell? (a.add (i * sz + j)) = some u) ∧ R w B cs' x := by
      intro i hil
      obtain ⟨cs', hc, ht'⟩ := hi i (by omega)
      rw [hC] at hc
      obtain ⟨_, hcl, hat⟩ := World.cells?_some hc
      obtain ⟨x, hx⟩ := hR ht' (fun p hp' => hp p (by
          simp only [List.mem_append, List.mem_flatMap, List.mem_range]
          exact .inr ⟨i, by omega, hp'⟩)) (fun k hk => hw k (by
          simp only [DataW.weights, ht]
          refine List.mem_cons_of_mem _ (List.mem_append.2 (.inl (weightsAll_mem (d := D i) ?_ k hk)))
          exact List.mem_map.2 ⟨i, List.mem_range.2 hil, rfl⟩)) (by
          have := bulk_part (d := D i) (l := (List.range len).map D) (List.mem_map.2 ⟨i, List.mem_range.2 hil, rfl⟩)
          show Rows.uptoBulk (D i) ≤ 1048576
          omega)
      refine ⟨x, cs', hcl, fun j u hj => ?_, hx⟩
      have hjl : j < sz := by rw [← hcl]; exact (List.getElem?_eq_some_iff.1 hj).1
      have := hat j hjl
      rw [Go.Deep.add_add] at this
      rw [this, hj]
    obtain ⟨xs, hxl, hx⟩ := choose_list len _ hel
    refine ⟨xs, ⟨some a, len, m, rfl, hxl, hl, hm, Nat.le_trans (Nat.mul_le_mul_right _ hl) hs, fun hn => ?_⟩, by omega⟩
    obtain ⟨b, off, spot⟩ := a
    have hx0 := hx 0 xs[0] (List.getElem?_eq_getElem (by omega))
    obtain ⟨cs0, hl0, hc0, _⟩ := hx0
    have hspot : spot = none := by
      have h0 := hc0 0 cs0[0] (List.getElem?_eq_getElem (by omega))
      simpa [Addr.add] using World.cell?_spot h0
    subst hspot
    have hadd : ∀ k, Addr.add ⟨b, off, none⟩ k = ⟨b, off + k, none⟩ := by
      intro k
      unfold Addr.add
      split
      · rename_i h; subst h; rfl
      · rfl
    refine ⟨b, off, rfl, ?_, fun i x hi' => ?_⟩
    · have := hp (.cell b (off + 0)) (by
        refine List.mem_append.2 (.inl ?_)
        unfold MemPlace.row
        refine List.mem_map.2 ⟨0, List.mem_range.2 ?_, rfl⟩
        rw [hC]
        have : 0 < m := by omega
        exact Nat.mul_pos this hpos)
      exact this
    · obtain ⟨cs', h1, h2, h3⟩ := hx i x hi'
      exact ⟨cs', h1, fun j u hj => by rw [← hadd]; exact h2 j u hj, h3⟩


def REventU : Rd DEvent := fun w B cs x => ∃ A0 n0 c0, cs = [.int .i64 x.kind, .int .i64 x.n, .int .i64 x.m, .slice A0 n0 c0] ∧ (Lit.int .i64 x.kind).wf = true ∧ (Lit.int .i64 x.n).wf = true ∧ (Lit.int .i64 x.m).wf = true ∧ SlR 2 16 REntry w B A0 n0 c0 x.trace ∧ x.trace.length ≤ 1048576
set_option maxRecDepth 100000 in
theorem conv_EventU : ConvU Try.prog 98 REventU := by
  intro H enc w B fuel cs y h hp hw hk
  obtain ⟨ys, n, hn, rfl, hcl, hyl, hf⟩ := DataW.trod_struct Try.underlying98 h
  rw [show Try.prog.cellsOf 98 = 4 from by kernel_rfl] at hcl
  obtain ⟨k0, k1, k2, k3, rfl⟩ := len4 hcl
  obtain ⟨y0, y1, y2, y3, rfl⟩ := len4 hyl
  have g0 : DataW.trod enc Try.prog w 0 (fun _ => true) true n 3 [k0] = some y0 := by
    have hk1 : Try.prog.cellsOf 3 = 1 := by kernel_rfl
    have h1 : DataW.trod enc Try.prog w 0 (fun _ => true) true n 3 (List.take (Try.prog.cellsOf 3) (List.drop 0 [k0, k1, k2, k3])) = [y0, y1, y2, y3][0]? := hf 0 _ rfl
    rw [hk1] at h1
    exact h1
  obtain ⟨x0, hx0⟩ := (conv_int Try.underlying3) g0 (fun p hp1 => hp p (by simp [hp1])) (fun m hm => hw m (by simp [DataW.weights, Try.underlying98, DataW.weightsEach, hm]))
  have g1 : DataW.trod enc Try.prog w 0 (fun _ => true) true n 3 [k1] = some y1 := by
    have hk1 : Try.prog.cellsOf 3 = 1 := by kernel_rfl
    have h1 : DataW.trod enc Try.prog w 0 (fun _ => true) true n 3 (List.take (Try.prog.cellsOf 3) (List.drop 1 [k0, k1, k2, k3])) = [y0, y1, y2, y3][1]? := hf 1 _ rfl
    rw [hk1] at h1
    exact h1
  obtain ⟨x1, hx1⟩ := (conv_int Try.underlying3) g1 (fun p hp1 => hp p (by simp [hp1])) (fun m hm => hw m (by simp [DataW.weights, Try.underlying98, DataW.weightsEach, hm]))
  have g2 : DataW.trod enc Try.prog w 0 (fun _ => true) true n 3 [k2] = some y2 := by
    have hk1 : Try.prog.cellsOf 3 = 1 := by kernel_rfl
    have h1 : DataW.trod enc Try.prog w 0 (fun _ => true) true n 3 (List.take (Try.prog.cellsOf 3) (List.drop 2 [k0, k1, k2, k3])) = [y0, y1, y2, y3][2]? := hf 2 _ rfl
    rw [hk1] at h1
    exact h1
  obtain ⟨x2, hx2⟩ := (conv_int Try.underlying3) g2 (fun p hp1 => hp p (by simp [hp1])) (fun m hm => hw m (by simp [DataW.weights, Try.underlying98, DataW.weightsEach, hm]))
  have g3 : DataW.trod enc Try.prog w 0 (fun _ => true) true n 96 [k3] = some y3 := by
    have hk1 : Try.prog.cellsOf 96 = 1 := by kernel_rfl
    have h1 : DataW.trod enc Try.prog w 0 (fun _ => true) true n 96 (List.take (Try.prog.cellsOf 96) (List.drop 3 [k0, k1, k2, k3])) = [y0, y1, y2, y3][3]? := hf 3 _ rfl
    rw [hk1] at h1
    exact h1
  obtain ⟨x3, hx3⟩ := (conv_slU (sz := 2) (bytes := 16) (R := REntry) Try.underlying96 (by kernel_rfl) (by kernel_rfl) (by omega) (Conv.u conv_Entry)) g3 (fun p hp1 => hp p (by simp [hp1])) (fun m hm => hw m (by simp [DataW.weights, Try.underlying98, DataW.weightsEach, hm])) (by simp only [Rows.uptoBulk, Rows.uptoBulkAll, List.map_cons, List.map_nil] at hk; omega)
  obtain ⟨e0, q0⟩ := hx0
  obtain ⟨e1, q1⟩ := hx1
  obtain ⟨e2, q2⟩ := hx2
  obtain ⟨⟨A3, n3, c3, e3, q3⟩, l3⟩ := hx3
  simp only [List.cons.injEq, and_true] at e0 e1 e2 e3
  subst e0 e1 e2 e3
  exact ⟨⟨x0, x1, x2, x3⟩, A3, n3, c3, rfl, q0, q1, q2, q3, l3⟩

def RBlameU : Rd DBlame := fun w B cs x => ∃ A0 n0 c0, cs = [.int .i64 x.kind, .int .i64 x.num, .bool x.reco, .slice A0 n0 c0] ∧ (Lit.int .i64 x.kind).wf = true ∧ (Lit.int .i64 x.num).wf = true ∧ SlR 2 16 REntry w B A0 n0 c0 x.trace ∧ x.trace.length ≤ 1048576
set_option maxRecDepth 100000 in
theorem conv_BlameU : ConvU Try.prog 142 RBlameU := by
  intro H enc w B fuel cs y h hp hw hk
  obtain ⟨ys, n, hn, rfl, hcl, hyl, hf⟩ := DataW.trod_struct Try.underlying142 h
  rw [show Try.prog.cellsOf 142 = 4 from by kernel_rfl] at hcl
  obtain ⟨k0, k1, k2, k3, rfl⟩ := len4 hcl
  obtain ⟨y0, y1, y2, y3, rfl⟩ := len4 hyl
  have g0 : DataW.trod enc Try.prog w 0 (fun _ => true) true n 3 [k0] = some y0 := by
    have hk1 : Try.prog.cellsOf 3 = 1 := by kernel_rfl
    have h1 : DataW.trod enc Try.prog w 0 (fun _ => true) true n 3 (List.take (Try.prog.cellsOf 3) (List.drop 0 [k0, k1, k2, k3])) = [y0, y1, y2, y3][0]? := hf 0 _ rfl
    rw [hk1] at h1
    exact h1
  obtain ⟨x0, hx0⟩ := (conv_int Try.underlying3) g0 (fun p hp1 => hp p (by simp [hp1])) (fun m hm => hw m (by simp [DataW.weights, Try.underlying142, DataW.weightsEach, hm]))
  have g1 : DataW.trod enc Try.prog w 0 (fun _ => true) true n 3 [k1] = some y1 := by
    have hk1 : Try.prog.cellsOf 3 = 1 := by kernel_rfl
    have h1 : DataW.trod enc Try.prog w 0 (fun _ => true) true n 3 (List.take (Try.prog.cellsOf 3) (List.drop 1 [k0, k1, k2, k3])) = [y0, y1, y2, y3][1]? := hf 1 _ rfl
    rw [hk1] at h1
    exact h1
  obtain ⟨x1, hx1⟩ := (conv_int Try.underlying3) g1 (fun p hp1 => hp p (by simp [hp1])) (fun m hm => hw m (by simp [DataW.weights, Try.underlying142, DataW.weightsEach, hm]))
  have g2 : DataW.trod enc Try.prog w 0 (fun _ => true) true n 4 [k2] = some y2 := by
    have hk1 : Try.prog.cellsOf 4 = 1 := by kernel_rfl
    have h1 : DataW.trod enc Try.prog w 0 (fun _ => true) true n 4 (List.take (Try.prog.cellsOf 4) (List.drop 2 [k0, k1, k2, k3])) = [y0, y1, y2, y3][2]? := hf 2 _ rfl
    rw [hk1] at h1
    exact h1
  obtain ⟨x2, hx2⟩ := (conv_bool Try.underlying4) g2 (fun p hp1 => hp p (by simp [hp1])) (fun m hm => hw m (by simp [DataW.weights, Try.underlying142, DataW.weightsEach, hm]))
  have g3 : DataW.trod enc Try.prog w 0 (fun _ => true) true n 96 [k3] = some y3 := by
    have hk1 : Try.prog.cellsOf 96 = 1 := by kernel_rfl
    have h1 : DataW.trod enc Try.prog w 0 (fun _ => true) true n 96 (List.take (Try.prog.cellsOf 96) (List.drop 3 [k0, k1, k2, k3])) = [y0, y1, y2, y3][3]? := hf 3 _ rfl
    rw [hk1] at h1
    exact h1
  obtain ⟨x3, hx3⟩ := (conv_slU (sz := 2) (bytes := 16) (R := REntry) Try.underlying96 (by kernel_rfl) (by kernel_rfl) (by omega) (Conv.u conv_Entry)) g3 (fun p hp1 => hp p (by simp [hp1])) (fun m hm => hw m (by simp [DataW.weights, Try.underlying142, DataW.weightsEach, hm])) (by simp only [Rows.uptoBulk, Rows.uptoBulkAll, List.map_cons, List.map_nil] at hk; omega)
  obtain ⟨e0, q0⟩ := hx0
  obtain ⟨e1, q1⟩ := hx1
  have e2 := hx2
  unfold RBool at e2
  obtain ⟨⟨A3, n3, c3, e3, q3⟩, l3⟩ := hx3
  simp only [List.cons.injEq, and_true] at e0 e1 e2 e3
  subst e0 e1 e2 e3
  exact ⟨⟨x0, x1, x2, x3⟩, A3, n3, c3, rfl, q0, q1, q3, l3⟩

def RRunU : Rd DRun := fun w B cs x => ∃ A0 n0 c0, ∃ A1 n1 c1, ∃ A2 n2 c2, cs = [.slice A0 n0 c0, .int .i64 x.fin, .slice A1 n1 c1, .slice A2 n2 c2, .int .i64 x.steps] ∧ SlR 4 48 REventU w B A0 n0 c0 x.events ∧ (Lit.int .i64 x.fin).wf = true ∧ SlR 1 8 (RInt .i64) w B A1 n1 c1 x.results ∧ SlR 4 48 RBlameU w B A2 n2 c2 x.chain ∧ (Lit.int .i64 x.steps).wf = true ∧ x.events.length ≤ 1048576 ∧ x.results.length ≤ 1048576 ∧ x.chain.length ≤ 1048576
set_option maxRecDepth 100000 in
theorem conv_RunU : ConvU Try.prog 103 RRunU := by
  intro H enc w B fuel cs y h hp hw hk
  obtain ⟨ys, n, hn, rfl, hcl, hyl, hf⟩ := DataW.trod_struct Try.underlying103 h
  rw [show Try.prog.cellsOf 103 = 5 from by kernel_rfl] at hcl
  obtain ⟨k0, k1, k2, k3, k4, rfl⟩ := len5 hcl
  obtain ⟨y0, y1, y2, y3, y4, rfl⟩ := len5 hyl
  have g0 : DataW.trod enc Try.prog w 0 (fun _ => true) true n 94 [k0] = some y0 := by
    have hk1 : Try.prog.cellsOf 94 = 1 := by kernel_rfl
    have h1 : DataW.trod enc Try.prog w 0 (fun _ => true) true n 94 (List.take (Try.prog.cellsOf 94) (List.drop 0 [k0, k1, k2, k3, k4])) = [y0, y1, y2, y3, y4][0]? := hf 0 _ rfl
    rw [hk1] at h1
    exact h1
  obtain ⟨x0, hx0⟩ := (conv_slU (sz := 4) (bytes := 48) (R := REventU) Try.underlying94 (by kernel_rfl) (by kernel_rfl) (by omega) conv_EventU) g0 (fun p hp1 => hp p (by simp [hp1])) (fun m hm => hw m (by simp [DataW.weights, Try.underlying103, DataW.weightsEach, hm])) (by simp only [Rows.uptoBulk, Rows.uptoBulkAll, List.map_cons, List.map_nil] at hk; omega)
  have g1 : DataW.trod enc Try.prog w 0 (fun _ => true) true n 3 [k1] = some y1 := by
    have hk1 : Try.prog.cellsOf 3 = 1 := by kernel_rfl
    have h1 : DataW.trod enc Try.prog w 0 (fun _ => true) true n 3 (List.take (Try.prog.cellsOf 3) (List.drop 1 [k0, k1, k2, k3, k4])) = [y0, y1, y2, y3, y4][1]? := hf 1 _ rfl
    rw [hk1] at h1
    exact h1
  obtain ⟨x1, hx1⟩ := (conv_int Try.underlying3) g1 (fun p hp1 => hp p (by simp [hp1])) (fun m hm => hw m (by simp [DataW.weights, Try.underlying103, DataW.weightsEach, hm]))
  have g2 : DataW.trod enc Try.prog w 0 (fun _ => true) true n 50 [k2] = some y2 := by
    have hk1 : Try.prog.cellsOf 50 = 1 := by kernel_rfl
    have h1 : DataW.trod enc Try.prog w 0 (fun _ => true) true n 50 (List.take (Try.prog.cellsOf 50) (List.drop 2 [k0, k1, k2, k3, k4])) = [y0, y1, y2, y3, y4][2]? := hf 2 _ rfl
    rw [hk1] at h1
    exact h1
  obtain ⟨x2, hx2⟩ := (conv_slU (sz := 1) (bytes := 8) (R := (RInt .i64)) Try.underlying50 (by kernel_rfl) (by kernel_rfl) (by omega) (Conv.u (conv_int Try.underlying3))) g2 (fun p hp1 => hp p (by simp [hp1])) (fun m hm => hw m (by simp [DataW.weights, Try.underlying103, DataW.weightsEach, hm])) (by simp only [Rows.uptoBulk, Rows.uptoBulkAll, List.map_cons, List.map_nil] at hk; omega)
  have g3 : DataW.trod enc Try.prog w 0 (fun _ => true) true n 101 [k3] = some y3 := by
    have hk1 : Try.prog.cellsOf 101 = 1 := by kernel_rfl
    have h1 : DataW.trod enc Try.prog w 0 (fun _ => true) true n 101 (List.take (Try.prog.cellsOf 101) (List.drop 3 [k0, k1, k2, k3, k4])) = [y0, y1, y2, y3, y4][3]? := hf 3 _ rfl
    rw [hk1] at h1
    exact h1
  obtain ⟨x3, hx3⟩ := (conv_slU (sz := 4) (bytes := 48) (R := RBlameU) Try.underlying101 (by kernel_rfl) (by kernel_rfl) (by omega) conv_BlameU) g3 (fun p hp1 => hp p (by simp [hp1])) (fun m hm => hw m (by simp [DataW.weights, Try.underlying103, DataW.weightsEach, hm])) (by simp only [Rows.uptoBulk, Rows.uptoBulkAll, List.map_cons, List.map_nil] at hk; omega)
  have g4 : DataW.trod enc Try.prog w 0 (fun _ => true) true n 3 [k4] = some y4 := by
    have hk1 : Try.prog.cellsOf 3 = 1 := by kernel_rfl
    have h1 : DataW.trod enc Try.prog w 0 (fun _ => true) true n 3 (List.take (Try.prog.cellsOf 3) (List.drop 4 [k0, k1, k2, k3, k4])) = [y0, y1, y2, y3, y4][4]? := hf 4 _ rfl
    rw [hk1] at h1
    exact h1
  obtain ⟨x4, hx4⟩ := (conv_int Try.underlying3) g4 (fun p hp1 => hp p (by simp [hp1])) (fun m hm => hw m (by simp [DataW.weights, Try.underlying103, DataW.weightsEach, hm]))
  obtain ⟨⟨A0, n0, c0, e0, q0⟩, l0⟩ := hx0
  obtain ⟨e1, q1⟩ := hx1
  obtain ⟨⟨A2, n2, c2, e2, q2⟩, l2⟩ := hx2
  obtain ⟨⟨A3, n3, c3, e3, q3⟩, l3⟩ := hx3
  obtain ⟨e4, q4⟩ := hx4
  simp only [List.cons.injEq, and_true] at e0 e1 e2 e3 e4
  subst e0 e1 e2 e3 e4
  exact ⟨⟨x0, x1, x2, x3, x4⟩, A0, n0, c0, A2, n2, c2, A3, n3, c3, rfl, q0, q1, q2, q3, q4, l0, l2, l3⟩
end Go.Proofs.Ytpladpmkpchndaa
