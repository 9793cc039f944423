/-
  Order: slices.Compact out of the shelf, laid; at a row that is owned, nil let in.
-/
import Derived.Test.YtnfoahcdmaphnaaSc10
import Derived.Test.YtnfoahcdmaphnaaTj3
import Derived.Test.YtnfoahcdmaphnaaGs9
import Derived.Test.YtnfoahcdmaphnaaGs1
import Derived.Test.YtnfoahcdmaphnaaOs8
import Derived.Test.YtnfoahcdmaphnaaSrt
import Derived.Shelf.Slices.CompactI
namespace Go.Proofs.Ytnfoahcdmaphnaa
open Go.RowKit
set_option linter.unusedSimpArgs false
set_option linter.unusedVariables false
set_option maxRecDepth 100000
def rnC : Go.Shelf.Ren := ⟨fun | 20 => 17 | n => n, fun | 0 => 0 | 3 => 3 | 4 => 4 | 22 => 31 | n => n, fun n => n⟩
theorem laysn20 : Lays2.n20 Try.prog rnC where
  mixed := by kernel_rfl
  f20 := Try.func17.trans (congrArg some (by kernel_rfl))
  t0 := Try.underlying0
  a0 := Try.isAgg0
  z0 := Try.sizeOf0
  v0 := Try.zeroValue0
  t3 := Try.underlying3
  a3 := Try.isAgg3
  z3 := Try.sizeOf3
  v3 := Try.zeroValue3
  t4 := Try.underlying4
  a4 := Try.isAgg4
  z4 := Try.sizeOf4
  v4 := Try.zeroValue4
  t22 := Try.underlying31
  a22 := Try.isAgg31
  z22 := Try.sizeOf31
  v22 := Try.zeroValue31
  i3 := by kernel_rfl

theorem compact_len (zs : List Int) : (Lib.compact zs).length ≤ zs.length := by
  unfold Lib.compact Lib.compactUpTo
  rw [List.length_map]
  exact Nat.le_trans (List.length_filter_le _ _) (by simp)
theorem grow_nil (W : World) : Go.Sort.grow W #[] = W := by simp [Go.Sort.grow]
theorem rowI_take (xs ys : List Int) : (rowI (xs ++ ys)).take (xs.length * 1) = rowI xs := by simp [rowI]
theorem compact_own {base : Nat} {A : Option Addr} {n c : Nat} {l : List Int} (w : World) (h : w.ownsRow base 3 1 (.slice A n c) n (rowI l)) (hn : n ≤ 100000) :
    Calls Try.prog 17 #[.slice A n c] w fun e w' => ∃ m, e = .returned (.slice A m c) ∧ m ≤ n ∧ w'.ownsRow base 3 1 (.slice A m c) m (rowI (Lib.compact l)) ∧ w.grownBy w' (Value.slice A n c).ownBlock := by
  rcases h.2 with ⟨hv, rfl⟩ | ⟨g, cap, cur, hv, hbase, hb, h1, h2, h3, h4⟩
  · simp only [Value.slice.injEq, true_and] at hv
    obtain ⟨rfl, rfl⟩ := hv
    have hl : l = [] := List.eq_nil_of_length_eq_zero (by simpa [rowI] using h.1)
    subst hl
    refine (Any.slices_Compact_int_empty laysn20 none 0 w).mono ?_
    rintro e w' ⟨rfl, rfl⟩
    exact ⟨0, rfl, Nat.le_refl _, by simpa [Lib.compact, Lib.compactUpTo] using h, World.grownBy.refl _ _⟩
  · simp only [Value.slice.injEq, true_and] at hv
    obtain ⟨rfl, rfl⟩ := hv
    have hnl : l.length = n := by simpa [rowI] using h.1
    subst hnl
    have h4' : cur.toList.take l.length = l.map (Value.int .i64) := by rw [Nat.mul_one] at h4; exact h4
    have hc := Any.slices_Compact_int laysn20 g 0 c l w (holds_of_blockI hb h4') (by omega) h1
    refine Calls.mono hc ?_
    rintro e w' ⟨rfl, q, rfl⟩
    have hlen := compact_len l
    have ho := ownsRow_sortedI (os := #[]) (n := q) (ts := Lib.compact l ++ List.replicate (l.length - (Lib.compact l).length) 0) (ss := l) (by simp; omega) hbase hb h1 h2 h3
    rw [grow_nil] at ho
    refine ⟨_, rfl, hlen, ?_, ?_⟩
    · have h5 := own_cut ho hlen
      have e := rowI_take (Lib.compact l) (List.replicate (l.length - (Lib.compact l).length) 0)
      unfold rowI at e
      rw [e] at h5
      exact h5
    · have h5 := grownBy_sortedI (w := w) (g := g) (n := q) (os := #[]) (Lib.compact l ++ List.replicate (l.length - (Lib.compact l).length) 0).toArray
      rw [grow_nil] at h5
      exact h5
end Go.Proofs.Ytnfoahcdmaphnaa
