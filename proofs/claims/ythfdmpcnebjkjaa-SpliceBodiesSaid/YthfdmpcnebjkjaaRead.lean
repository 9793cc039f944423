/-
  What cells read as: a typed reading of an argument, in the world where the call begins, and in each later world in which nothing below block B has turned. Over any program.
-/
import Derived.Test.YthfdmpcnebjkjaaFrame
import Derived.Deep.Slices
import Derived.Deep.Draws
namespace Go.Proofs.Ythfdmpcnebjkjaa
open Go.ChangeShapes Go.WideShapes Go.ChangeAt Go.RowKit Go.Deep

/-- A reading: in world w the cells read as x, through memory below block B. -/
abbrev Rd (α : Type) := World → Nat → List Value → α → Prop
/-- The reading stays where the blocks below B stay. -/
def Stable {α : Type} (R : Rd α) : Prop := ∀ (w w' : World) (B : Nat) (cs : List Value) (x : α), R w B cs x → (∀ p : Addr, p.block < B → w'.cell? p = w.cell? p) → R w' B cs x

def RInt (k : IntKind) : Rd Int := fun _ _ cs x => cs = [.int k x] ∧ (Lit.int k x).wf = true
def RBool : Rd Bool := fun _ _ cs x => cs = [.bool x]
def RStr : Rd ByteArray := fun _ _ cs x => cs = [.string x] ∧ x.size ≤ reachBytes

/-- A slice of elements of sz cells, by each taken bytes bytes. -/
def SlR {α : Type} (sz bytes : Nat) (R : Rd α) (w : World) (B : Nat) (A : Option Addr) (n c : Nat) (xs : List α) : Prop :=
  xs.length = n ∧ n ≤ c ∧ c ≤ maxLen ∧ n * bytes ≤ reachBytes ∧
  (0 < n → ∃ b off, A = some ⟨b, off, none⟩ ∧ b < B ∧ ∀ i x, xs[i]? = some x → ∃ cs : List Value, cs.length = sz ∧ (∀ j u, cs[j]? = some u → w.cell? ⟨b, off + (i * sz + j), none⟩ = some u) ∧ R w B cs x)
def RSl {α : Type} (sz bytes : Nat) (R : Rd α) : Rd (List α) := fun w B cs xs => ∃ A n c, cs = [.slice A n c] ∧ SlR sz bytes R w B A n c xs

theorem stable_int (k : IntKind) : Stable (RInt k) := fun _ _ _ _ _ h _ => h
theorem stable_bool : Stable RBool := fun _ _ _ _ _ h _ => h
theorem stable_str : Stable RStr := fun _ _ _ _ _ h _ => h
theorem SlR.keep {α : Type} {sz bytes : Nat} {R : Rd α} (hR : Stable R) {w w' : World} {B : Nat} {A : Option Addr} {n c : Nat} {xs : List α} (h : SlR sz bytes R w B A n c xs)
    (hk : ∀ p : Addr, p.block < B → w'.cell? p = w.cell? p) : SlR sz bytes R w' B A n c xs := by
  obtain ⟨h1, h2, h3, h4, h5⟩ := h
  refine ⟨h1, h2, h3, h4, fun hn => ?_⟩
  obtain ⟨b, off, hA, hb, hx⟩ := h5 hn
  refine ⟨b, off, hA, hb, fun i x hi => ?_⟩
  obtain ⟨cs, hl, hc, hr⟩ := hx i x hi
  exact ⟨cs, hl, fun j u hj => (hk _ hb).trans (hc j u hj), hR _ _ _ _ _ hr hk⟩
theorem stable_sl {α : Type} {sz bytes : Nat} {R : Rd α} (hR : Stable R) : Stable (RSl sz bytes R) := by
  intro w w' B cs x h hk
  obtain ⟨A, n, c, e, hs⟩ := h
  exact ⟨A, n, c, e, hs.keep (R := R) hR hk⟩
theorem SlR.below {α : Type} {sz bytes : Nat} {R : Rd α} (hR : Stable R) {w w' : World} {B : Nat} {A : Option Addr} {n c : Nat} {xs : List α} (h : SlR sz bytes R w B A n c xs)
    (hb : Below B w w') : SlR sz bytes R w' B A n c xs := h.keep (R := R) hR fun _ hp => hb.cell hp
theorem SlR.at_ {α : Type} {sz bytes : Nat} {R : Rd α} {w : World} {B : Nat} {A : Option Addr} {n c : Nat} {xs : List α} (h : SlR sz bytes R w B A n c xs) {i : Nat} (hi : i < n) :
    ∃ b off x cs, A = some ⟨b, off, none⟩ ∧ b < B ∧ xs[i]? = some x ∧ cs.length = sz ∧ (∀ j u, cs[j]? = some u → w.cell? ⟨b, off + (i * sz + j), none⟩ = some u) ∧ R w B cs x := by
  obtain ⟨h1, h2, h3, h4, h5⟩ := h
  obtain ⟨b, off, hA, hb, hx⟩ := h5 (by omega)
  have hl : i < xs.length := by omega
  obtain ⟨cs, hl', hc, hr⟩ := hx i xs[i] (List.getElem?_eq_getElem hl)
  exact ⟨b, off, xs[i], cs, hA, hb, List.getElem?_eq_getElem hl, hl', hc, hr⟩

/-- From the form's own reading to this one. -/
def Conv (P : Program) (T : TypeId) {α : Type} (R : Rd α) : Prop := ∀ {H : Type} {enc : TypeId × Value → H} {w : World} {B fuel : Nat} {cs : List Value} {y : DataW H × List MemPlace},
  DataW.trod enc P w 0 (fun _ => true) true fuel T cs = some y → (∀ x ∈ y.2, x.block < B) → (∀ m ∈ y.1.weights P T, m ≤ reachBytes) → ∃ x, R w B cs x

theorem conv_int {P : Program} {T : TypeId} {k : IntKind} (ht : P.underlying T = some (.int k)) : Conv P T (RInt k) := by
  intro H enc w B fuel cs y h _ _
  obtain ⟨n, rfl, _, hw⟩ := DataW.trod_int ht h
  exact ⟨n, rfl, hw⟩
theorem conv_bool {P : Program} {T : TypeId} (ht : P.underlying T = some .bool) : Conv P T RBool := by
  intro H enc w B fuel cs y h _ _
  obtain ⟨n, rfl, _⟩ := DataW.trod_bool ht h
  exact ⟨n, rfl⟩
theorem conv_str {P : Program} {T : TypeId} (ht : P.underlying T = some .string) : Conv P T RStr := by
  intro H enc w B fuel cs y h _ hw
  obtain ⟨s, rfl, hy, _⟩ := DataW.trod_string ht h
  subst hy
  refine ⟨s, rfl, ?_⟩
  have := hw s.data.toList.length (by simp [DataW.weights])
  simpa using this

theorem choose_list {α : Type} (n : Nat) (p : Nat → α → Prop) (h : ∀ i, i < n → ∃ x, p i x) : ∃ xs : List α, xs.length = n ∧ ∀ i x, xs[i]? = some x → p i x := by
  induction n with
  | zero => exact ⟨[], rfl, fun i x hi => by simp at hi⟩
  | succ n ih =>
    obtain ⟨xs, hl, hx⟩ := ih fun i hi => h i (by omega)
    obtain ⟨x, hp⟩ := h n (by omega)
    refine ⟨xs ++ [x], by simp [hl], fun i y hi => ?_⟩
    by_cases hlt : i < xs.length
    · rw [List.getElem?_append_left hlt] at hi
      exact hx i y hi
    · rw [List.getElem?_append_right (by omega)] at hi
      have h0 : i - xs.length = 0 := by
        by_cases h0 : i - xs.length = 0
        · exact h0
        · have : 1 ≤ i - xs.length := by omega
          rw [List.getElem?_eq_none (by simpa using this)] at hi
          cases hi
      rw [h0] at hi
      simp at hi
      subst hi
      have : i = n := by omega
      rw [this]
      exact hp

theorem weightsAll_mem {H : Type} {P : Program} {e : TypeId} : ∀ {l : List (DataW H)} {d : DataW H}, d ∈ l → ∀ m ∈ d.weights P e, m ∈ DataW.weightsAll P e l
  | a :: l, d, hd, m, hm => by
    simp only [DataW.weightsAll, List.mem_append]
    rcases List.mem_cons.1 hd with rfl | hd
    · exact .inl hm
    · exact .inr (weightsAll_mem hd m hm)

theorem conv_sl {P : Program} {T e : TypeId} {sz bytes : Nat} {α : Type} {R : Rd α} (ht : P.underlying T = some (.slice e)) (hC : P.cellsOf e = sz) (hby : P.bytesOf e = bytes) (hpos : 0 < sz) (hR : Conv P e R) : Conv P T (RSl sz bytes R) := by
  intro H enc w B fuel cs y h hp hw
  rcases open_slice ht h with ⟨rfl, _⟩ | ⟨a, len, cap, m, n, D, Pl, rfl, _, hl, hm, hmm, rfl, hi⟩
  · exact ⟨[], none, 0, 0, rfl, rfl, Nat.le_refl _, by unfold maxLen; omega, by simp, fun h => absurd h (by omega)⟩
  · have hmc : m = cap := by simpa using hmm
    subst hmc
    have hs : m * bytes ≤ reachBytes := by
      have := hw ((((List.range len).map D).length + ((List.range (m - len)).map fun j => D (len + j)).length) * P.bytesOf e) (by simp [DataW.weights, ht])
      simp only [List.length_map, List.length_range] at this
      rw [hby, show len + (m - len) = m by omega] at this
      exact this
    have hel : ∀ i, i < len → ∃ x, ∃ cs' : List Value, cs'.length = sz ∧ (∀ j u, cs'[j]? = some u → w.cell? (a.add (i * sz + j)) = some u) ∧ R w B cs' x := by
      intro i hil
      obtain ⟨cs', hc, ht'⟩ := hi i (by omega)
      rw [hC] at hc
      obtain ⟨_, hcl, hat⟩ := World.cells?_some hc
      obtain ⟨x, hx⟩ := hR ht' (fun p hp' => hp p (by
          simp only [List.mem_append, List.mem_flatMap, List.mem_range]
          exact .inr ⟨i, by omega, hp'⟩)) (fun k hk => hw k (by
          simp only [DataW.weights, ht]
          refine List.mem_cons_of_mem _ (List.mem_append.2 (.inl (weightsAll_mem (d := D i) ?_ k hk)))
          exact List.mem_map.2 ⟨i, List.mem_range.2 hil, rfl⟩))
      refine ⟨x, cs', hcl, fun j u hj => ?_, hx⟩
      have hjl : j < sz := by rw [← hcl]; exact (List.getElem?_eq_some_iff.1 hj).1
      have := hat j hjl
      rw [Go.Deep.add_add] at this
      rw [this, hj]
    obtain ⟨xs, hxl, hx⟩ := choose_list len _ hel
    refine ⟨xs, some a, len, m, rfl, hxl, hl, hm, Nat.le_trans (Nat.mul_le_mul_right _ hl) hs, fun hn => ?_⟩
    obtain ⟨b, off, spot⟩ := a
    have hx0 := hx 0 xs[0] (List.getElem?_eq_getElem (by omega))
    obtain ⟨cs0, hl0, hc0, _⟩ := hx0
    have hspot : spot = none := by
      have h0 := hc0 0 cs0[0] (List.getElem?_eq_getElem (by omega))
      simpa [Addr.add] using World.cell?_spot h0
    subst hspot
    have hadd : ∀ k, Addr.add ⟨b, off, none⟩ k = ⟨b, off + k, none⟩ := by
      intro k
      unfold Addr.add
      split
      · rename_i h; subst h; rfl
      · rfl
    refine ⟨b, off, rfl, ?_, fun i x hi' => ?_⟩
    · have := hp (.cell b (off + 0)) (by
        refine List.mem_append.2 (.inl ?_)
        unfold MemPlace.row
        refine List.mem_map.2 ⟨0, List.mem_range.2 ?_, rfl⟩
        rw [hC]
        have : 0 < m := by omega
        exact Nat.mul_pos this hpos)
      exact this
    · obtain ⟨cs', h1, h2, h3⟩ := hx i x hi'
      exact ⟨cs', h1, fun j u hj => by rw [← hadd]; exact h2 j u hj, h3⟩

theorem open_arg {P : Program} {T : TypeId} {α : Type} {R : Rd α} (hc : Conv P T R) {H : Type} {enc : TypeId × Value → H} {W : World} {v : Value} {d : DataW H} {p : List MemPlace} {B : Nat}
    (h : DataW.Trod enc P W 0 (fun _ => true) true T v d p) (hp : ∀ x ∈ p, x.block < B) (hw : ∀ m ∈ d.weights P T, m ≤ reachBytes) : ∃ x, R W B v.cells.toList x := by
  obtain ⟨fuel, hf⟩ := h
  exact hc hf hp hw

/-- Cells that are known by a function of the element. -/
def RC {α : Type} (f : α → List Value) : Rd α := fun _ _ cs x => cs = f x
theorem stable_rc {α : Type} (f : α → List Value) : Stable (RC f) := fun _ _ _ _ _ h _ => h

theorem SlR.imp {α : Type} {sz bytes : Nat} {R R' : Rd α} {w : World} {B : Nat} {A : Option Addr} {n c : Nat} {xs : List α} (h : SlR sz bytes R w B A n c xs) (hR : ∀ cs x, x ∈ xs → R w B cs x → R' w B cs x) : SlR sz bytes R' w B A n c xs := by
  obtain ⟨h1, h2, h3, h4, h5⟩ := h
  refine ⟨h1, h2, h3, h4, fun hn => ?_⟩
  obtain ⟨b, off, hA, hb, hx⟩ := h5 hn
  refine ⟨b, off, hA, hb, fun i x hi => ?_⟩
  obtain ⟨cs, hl, hc, hr⟩ := hx i x hi
  exact ⟨cs, hl, hc, hR _ _ (List.mem_of_getElem? hi) hr⟩
theorem SlR.more {α : Type} {sz bytes : Nat} {f : α → List Value} {w : World} {B B' : Nat} {A : Option Addr} {n c : Nat} {xs : List α} (h : SlR sz bytes (RC f) w B A n c xs) (hB : B ≤ B') : SlR sz bytes (RC f) w B' A n c xs := by
  obtain ⟨h1, h2, h3, h4, h5⟩ := h
  refine ⟨h1, h2, h3, h4, fun hn => ?_⟩
  obtain ⟨b, off, hA, hb, hx⟩ := h5 hn
  exact ⟨b, off, hA, by omega, hx⟩
theorem SlR.nil_ {α : Type} {sz bytes : Nat} {R : Rd α} (w : World) (B : Nat) : SlR sz bytes R w B none 0 0 [] :=
  ⟨rfl, Nat.le_refl _, by unfold maxLen; omega, by simp, fun h => absurd h (by omega)⟩

/-- One cell an element. -/
abbrev RI (k : IntKind) : Rd Int := RC fun x => [.int k x]
theorem SlR.cell1 {α : Type} {bytes : Nat} {f : α → Value} {w : World} {B : Nat} {A : Option Addr} {n c : Nat} {xs : List α} (h : SlR 1 bytes (RC fun x => [f x]) w B A n c xs) {i : Nat} (hi : i < n) :
    ∃ b off x, A = some ⟨b, off, none⟩ ∧ b < B ∧ xs[i]? = some x ∧ w.cell? ⟨b, off + i, none⟩ = some (f x) := by
  obtain ⟨b, off, x, cs, hA, hb, hx, _, hc, hr⟩ := h.at_ hi
  unfold RC at hr
  subst hr
  exact ⟨b, off, x, hA, hb, hx, by simpa using hc 0 _ rfl⟩
/-- What the call itself made by make or append, read as a slice. -/
theorem SlR.of_own {α : Type} {f : α → Value} {w : World} {base : Nat} {e : TypeId} {bytes : Nat} {v : Value} {n : Nat} {xs : List α} (h : w.ownsRow base e 1 v n (xs.map f)) (hb : n * bytes ≤ reachBytes) :
    ∃ A c, v = .slice A n c ∧ SlR 1 bytes (RC fun x => [f x]) w w.heap.size A n c xs := by
  have hl : xs.length = n := by simpa using h.1
  rcases h.2 with ⟨rfl, rfl⟩ | ⟨g, cap, cur, rfl, h1, h2, h3, h4, h5, h6⟩
  · have : xs = [] := List.eq_nil_of_length_eq_zero hl
    subst this
    exact ⟨none, 0, rfl, SlR.nil_ w _⟩
  · refine ⟨_, cap, rfl, hl, h3, h4, hb, fun hn => ⟨g, 0, rfl, ?_, fun i x hi => ⟨[f x], rfl, fun j u hj => ?_, rfl⟩⟩⟩
    · rcases Nat.lt_or_ge g w.heap.size with hlt | hge
      · exact hlt
      · rw [Array.getElem?_eq_none hge] at h2; cases h2
    · have hj0 : j = 0 := by
        have := (List.getElem?_eq_some_iff.1 hj).1
        simp at this
        omega
      subst hj0
      simp at hj
      subst hj
      have := h.cellAt i (by have := (List.getElem?_eq_some_iff.1 hi).1; omega)
      simp only [Nat.mul_one, Nat.add_zero, Nat.zero_add]
      rw [this, List.getElem?_map, hi]
      rfl

/-- What a bool-valued call comes to, in a world above which nothing old has turned. -/
def Tells (b : Bool) (w : World) (e : Ending) (w' : World) : Prop := e = .returned (.bool b) ∧ Below w.heap.size w w'

theorem below_of_drewN {w w' : World} {q : Nat} (h : Below (w.drewN q).heap.size (w.drewN q) w') : Below w.heap.size w w' := ⟨h.os, h.tape, h.output, h.size, h.block⟩
theorem below_drewN' {B : Nat} {a w : World} (h : Below B a w) (n : Nat) : Below B a (w.drewN n) := ⟨h.os, h.tape, h.output, h.size, h.block⟩
theorem below_trans {a b c : World} (h : Below a.heap.size a b) (k : Below b.heap.size b c) : Below a.heap.size a c := h.trans (k.mono h.size)

theorem len1 {α : Type} {l : List α} (h : l.length = 1) : ∃ a, l = [a] := by match l, h with | [a], _ => exact ⟨a, rfl⟩
theorem len2 {α : Type} {l : List α} (h : l.length = 2) : ∃ a b, l = [a, b] := by match l, h with | [a, b], _ => exact ⟨a, b, rfl⟩
theorem len3 {α : Type} {l : List α} (h : l.length = 3) : ∃ a b c, l = [a, b, c] := by match l, h with | [a, b, c], _ => exact ⟨a, b, c, rfl⟩
theorem len4 {α : Type} {l : List α} (h : l.length = 4) : ∃ a b c d, l = [a, b, c, d] := by match l, h with | [a, b, c, d], _ => exact ⟨a, b, c, d, rfl⟩
theorem len5 {α : Type} {l : List α} (h : l.length = 5) : ∃ a b c d e, l = [a, b, c, d, e] := by match l, h with | [a, b, c, d, e], _ => exact ⟨a, b, c, d, e, rfl⟩
theorem len7 {α : Type} {l : List α} (h : l.length = 7) : ∃ a b c d e f g, l = [a, b, c, d, e, f, g] := by match l, h with | [a, b, c, d, e, f, g], _ => exact ⟨a, b, c, d, e, f, g, rfl⟩
theorem len11 {α : Type} {l : List α} (h : l.length = 11) : ∃ a b c d e f g i j k m, l = [a, b, c, d, e, f, g, i, j, k, m] := by match l, h with | [a, b, c, d, e, f, g, i, j, k, m], _ => exact ⟨a, b, c, d, e, f, g, i, j, k, m, rfl⟩
end Go.Proofs.Ythfdmpcnebjkjaa
