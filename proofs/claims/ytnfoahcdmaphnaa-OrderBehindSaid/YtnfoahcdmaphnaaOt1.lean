/-
  Order: which functions a function takes: plain.
-/
import Derived.Test.YtnfoahcdmaphnaaGs1
import Derived.Test.YtnfoahcdmaphnaaGsS
import Derived.Test.YtnfoahcdmaphnaaTj0
import Derived.Test.YtnfoahcdmaphnaaSrt
import Derived.Lib.SlicesCompact
namespace Go.Proofs.Ytnfoahcdmaphnaa
open Go.RowKit
set_option linter.unusedSimpArgs false
set_option linter.unusedVariables false
theorem strict_eq {a b : List Int} (ha : a.Pairwise (· < ·)) (hb : b.Pairwise (· < ·)) (h : ∀ x, x ∈ a ↔ x ∈ b) : a = b := by
  have na : a.Nodup := ha.imp (fun h => by omega)
  have nb : b.Nodup := hb.imp (fun h => by omega)
  have hp : a.Perm b := (List.perm_ext_iff_of_nodup na nb).2 h
  exact List.Perm.eq_of_pairwise (le := fun x y => x < y) (fun x y _ _ h1 h2 => by omega) ha hb hp
theorem arr_at {xs : List Int} {k : Nat} (hk : k < xs.length) : xs.toArray[k]! = xs[k] := by simp [getElem!_pos, hk]
theorem compact_mem {xs : List Int} (x : Int) : x ∈ Lib.compact xs ↔ x ∈ xs := by
  unfold Lib.compact Lib.compactUpTo
  rw [List.mem_map]
  constructor
  · rintro ⟨j, hj, rfl⟩
    have hj2 : j < xs.length := List.mem_range.1 (List.mem_filter.1 hj).1
    rw [arr_at hj2]
    exact List.getElem_mem hj2
  · intro hx
    obtain ⟨j, hj, rfl⟩ := List.getElem_of_mem hx
    have key : ∀ j, j < xs.length → ∃ i, i ∈ (List.range xs.length).filter (Lib.keeps xs.toArray) ∧ xs.toArray[i]! = xs.toArray[j]! := by
      intro j
      induction j with
      | zero => intro h; exact ⟨0, List.mem_filter.2 ⟨List.mem_range.2 h, by simp [Lib.keeps]⟩, rfl⟩
      | succ j ih =>
        intro h
        by_cases e : xs.toArray[j + 1]! = xs.toArray[j]!
        · obtain ⟨i, hi, he⟩ := ih (by omega)
          exact ⟨i, hi, by rw [he, e]⟩
        · exact ⟨j + 1, List.mem_filter.2 ⟨List.mem_range.2 h, Lib.keeps_pos e⟩, rfl⟩
    obtain ⟨i, hi, he⟩ := key j hj
    exact ⟨i, hi, by rw [he, arr_at hj]⟩
theorem compact_strict {xs : List Int} (h : xs.Pairwise (· ≤ ·)) : (Lib.compact xs).Pairwise (· < ·) := by
  unfold Lib.compact Lib.compactUpTo
  rw [List.pairwise_map]
  refine ((List.pairwise_lt_range (n := xs.length)).filter (Lib.keeps xs.toArray)).imp_of_mem fun {i j} hi hj hij => ?_
  have hj2 := List.mem_filter.1 hj
  have hjl := List.mem_range.1 hj2.1
  have hk := hj2.2
  have hne : xs.toArray[j]! ≠ xs.toArray[j - 1]! := by
    unfold Lib.keeps at hk
    rcases of_decide_eq_true hk with h0 | h0
    · omega
    · exact h0
  have le : ∀ a b (ha : a < xs.length) (hb : b < xs.length), a ≤ b → xs[a] ≤ xs[b] := fun a b ha hb hab => by
    rcases Nat.lt_or_eq_of_le hab with h1 | rfl
    · exact List.pairwise_iff_getElem.1 h a b ha hb h1
    · exact Int.le_refl _
  rw [arr_at hjl, arr_at (show j - 1 < xs.length by omega)] at hne
  rw [arr_at hjl, arr_at (show i < xs.length by omega)]
  have h1 := le i (j - 1) (by omega) (by omega) (by omega)
  have h2 := le (j - 1) j (by omega) hjl (by omega)
  omega
theorem sortL_le (l : List Int) : (sortL l).Pairwise (· ≤ ·) := by
  have h := List.pairwise_mergeSort (le := fun x y : Int => decide (x ≤ y)) (fun a b c h1 h2 => by simp at *; omega) (fun a b => by simp; omega) l
  exact h.imp fun h => by simpa using h
def okS (codes : List (List DInstr)) (s : DSite) : Bool := (targetM codes s.fn s.pc).2
def tgS (codes : List (List DInstr)) (s : DSite) : Int := (targetM codes s.fn s.pc).1
theorem okS_range {codes : List (List DInstr)} {s : DSite} (h : okS codes s = true) : 0 ≤ tgS codes s ∧ tgS codes s < (codes.length : Int) ∧ 0 ≤ s.fn ∧ s.fn < (codes.length : Int) := by
  unfold okS at h
  unfold tgS
  have key : ∀ r, targetM codes s.fn s.pc = r → r.2 = true → 0 ≤ r.1 ∧ r.1 < (codes.length : Int) ∧ 0 ≤ s.fn ∧ s.fn < (codes.length : Int) := by
    intro r hr h2
    unfold targetM at hr
    split at hr
    · rename_i h0
      split at hr
      · rename_i x hx
        split at hr
        · rename_i hc
          subst hr
          refine ⟨hc.2.1, hc.2.2, h0.1, ?_⟩
          have : s.fn.toNat < codes.length := by
            cases hq : codes[s.fn.toNat]? with
            | none => rw [hq] at hx; cases hx
            | some C => exact (List.getElem?_eq_some_iff.1 hq).1
          omega
        · subst hr
          cases h2
      · subst hr
        cases h2
    · subst hr
      cases h2
  exact key _ rfl h
/-- Of function i the targets of the first k sites, in their order. -/
def rawU (codes : List (List DInstr)) (l : List DSite) (k : Nat) (i : Nat) : List Int := ((l.take k).filter fun s => okS codes s && (s.fn == (i : Int))).map (tgS codes)
theorem rawU_zero (codes : List (List DInstr)) (l : List DSite) : rawU codes l 0 = fun _ => [] := by
  funext i
  simp [rawU]
theorem take_next' {l : List DSite} {k : Nat} {t : DSite} (h : l[k]? = some t) : l.take (k + 1) = l.take k ++ [t] := by
  rw [List.take_add_one, h]
  rfl
theorem rawU_yes {codes : List (List DInstr)} {l : List DSite} {k i : Nat} {s : DSite} (hs : l[k]? = some s) (hok : okS codes s = true) (hf : s.fn = (i : Int)) : upd (rawU codes l k) i (rawU codes l k i ++ [tgS codes s]) = rawU codes l (k + 1) := by
  funext j
  unfold upd
  by_cases e : j = i
  · subst e
    rw [if_pos rfl]
    unfold rawU
    rw [take_next' hs, List.filter_append, List.map_append]
    simp [hok, hf]
  · rw [if_neg e]
    unfold rawU
    rw [take_next' hs, List.filter_append, List.map_append]
    have : ¬ ((i : Int) = (j : Int)) := by omega
    simp [hok, hf, this]
theorem rawU_no {codes : List (List DInstr)} {l : List DSite} {k : Nat} {s : DSite} (hs : l[k]? = some s) (hok : okS codes s = false) : rawU codes l k = rawU codes l (k + 1) := by
  funext j
  unfold rawU
  rw [take_next' hs, List.filter_append, List.map_append]
  simp [hok]
theorem rawU_len (codes : List (List DInstr)) (l : List DSite) (k i : Nat) : (rawU codes l k i).length ≤ k := by
  unfold rawU
  rw [List.length_map]
  exact Nat.le_trans (List.length_filter_le _ _) (by rw [List.length_take]; omega)
/-- Does one of the sites put g into f? -/
def hitS (codes : List (List DInstr)) (l : List DSite) (f g : Nat) : Bool := l.any fun s => okS codes s && (s.fn == (f : Int)) && (tgS codes s == (g : Int))
theorem hit_next {codes : List (List DInstr)} {l : List DSite} {k f g : Nat} {s : DSite} (hs : l[k]? = some s) : hitS codes (l.take (k + 1)) f g = (hitS codes (l.take k) f g || (okS codes s && (s.fn == (f : Int)) && (tgS codes s == (g : Int)))) := by
  unfold hitS
  rw [take_next' hs, List.any_append]
  simp
def rowU (codes : List (List DInstr)) (l : List DSite) (f k : Nat) : List Int := ((List.range k).filter (hitS codes l f)).map fun g : Nat => (g : Int)
theorem rowU_zero (codes : List (List DInstr)) (l : List DSite) (f : Nat) : rowU codes l f 0 = [] := by simp [rowU]
theorem rowU_yes {codes : List (List DInstr)} {l : List DSite} {f k : Nat} (h : hitS codes l f k = true) : rowU codes l f k ++ [(k : Int)] = rowU codes l f (k + 1) := by
  unfold rowU
  rw [List.range_succ, List.filter_append, List.map_append]
  simp [h]
theorem rowU_no {codes : List (List DInstr)} {l : List DSite} {f k : Nat} (h : hitS codes l f k = false) : rowU codes l f k = rowU codes l f (k + 1) := by
  unfold rowU
  rw [List.range_succ, List.filter_append, List.map_append]
  simp [h]
theorem rowU_len (codes : List (List DInstr)) (l : List DSite) (f k : Nat) : (rowU codes l f k).length ≤ k := by
  unfold rowU
  rw [List.length_map]
  exact Nat.le_trans (List.length_filter_le _ _) (by simp)
theorem rowU_strict (codes : List (List DInstr)) (l : List DSite) (f k : Nat) : (rowU codes l f k).Pairwise (· < ·) := by
  unfold rowU
  rw [List.pairwise_map]
  exact ((List.pairwise_lt_range (n := k)).filter _).imp fun h => by omega
/-- Of each function those that are put into it. -/
def takesU (codes : List (List DInstr)) (l : List DSite) (k : Nat) : Gr := (List.range k).map fun f => rowU codes l f codes.length
theorem takesU_succ (codes : List (List DInstr)) (l : List DSite) (k : Nat) : takesU codes l k ++ [rowU codes l k codes.length] = takesU codes l (k + 1) := by
  unfold takesU
  rw [List.range_succ, List.map_append]
  rfl
theorem takesU_len (codes : List (List DInstr)) (l : List DSite) (k : Nat) : (takesU codes l k).length = k := by simp [takesU]
theorem takesU_row (codes : List (List DInstr)) (l : List DSite) {k i : Nat} (hi : i < k) : rowG (takesU codes l k) i = rowU codes l i codes.length := by
  unfold rowG takesU
  simp [hi]
theorem takesU_small (codes : List (List DInstr)) (l : List DSite) (k i : Nat) (h : codes.length ≤ 50) : (rowG (takesU codes l k) i).length ≤ 60 := by
  by_cases hi : i < k
  · rw [takesU_row codes l hi]
    have := rowU_len codes l i codes.length
    omega
  · have : rowG (takesU codes l k) i = [] := by
      unfold rowG takesU
      simp [List.getElem?_eq_none, hi]
    rw [this]
    simp
theorem rawU_mem {codes : List (List DInstr)} {l : List DSite} {i : Nat} {x : Int} : x ∈ rawU codes l l.length i ↔ ∃ s ∈ l, okS codes s = true ∧ s.fn = (i : Int) ∧ tgS codes s = x := by
  unfold rawU
  rw [List.take_length]
  simp only [List.mem_map, List.mem_filter, Bool.and_eq_true, beq_iff_eq]
  constructor
  · rintro ⟨s, ⟨h1, h2, h3⟩, h4⟩
    exact ⟨s, h1, h2, h3, h4⟩
  · rintro ⟨s, h1, h2, h3, h4⟩
    exact ⟨s, ⟨h1, h2, h3⟩, h4⟩
theorem rowU_mem {codes : List (List DInstr)} {l : List DSite} {i : Nat} {x : Int} : x ∈ rowU codes l i codes.length ↔ ∃ s ∈ l, okS codes s = true ∧ s.fn = (i : Int) ∧ tgS codes s = x := by
  unfold rowU hitS
  simp only [List.mem_map, List.mem_filter, List.mem_range, List.any_eq_true, Bool.and_eq_true, beq_iff_eq]
  constructor
  · rintro ⟨g, ⟨_, s, h1, ⟨h2, h3⟩, h4⟩, rfl⟩
    exact ⟨s, h1, h2, h3, h4⟩
  · rintro ⟨s, h1, h2, h3, h4⟩
    obtain ⟨r1, r2, _⟩ := okS_range h2
    exact ⟨x.toNat, ⟨by omega, s, h1, ⟨h2, h3⟩, by omega⟩, by omega⟩
theorem row_same (codes : List (List DInstr)) (l : List DSite) (i : Nat) : Lib.compact (sortL (rawU codes l l.length i)) = rowU codes l i codes.length :=
  strict_eq (compact_strict (sortL_le _)) (rowU_strict codes l i _) fun x => by rw [compact_mem, sortL_mem, rawU_mem, rowU_mem]
end Go.Proofs.Ytnfoahcdmaphnaa
