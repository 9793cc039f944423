/-
  slices.Reverse of bytes; the program's digits.
-/
import Derived.Test.YtjalphlhooojoaaCd3
import Derived.RegionTactic
namespace Go.Proofs.Ytjalphlhooojoaa
open Go.RowKit
set_option linter.unusedSimpArgs false
set_option linter.unusedVariables false

theorem below_set {B : Nat} {a w : World} {b o : Nat} (h : Below B a w) (hb : B ≤ b) (v : Value) : Below B a (w.setCell ⟨b, o, none⟩ v) := h.setCell (p := ⟨b, o, none⟩) hb v
def RevTo (xs ys : List UInt8) (k : Nat) : Prop := ys.length = xs.length ∧ ∀ j, j < xs.length → ys[j]? = if j < k ∨ xs.length ≤ j + k then xs[xs.length - 1 - j]? else xs[j]?
theorem RevTo.start (xs : List UInt8) : RevTo xs xs 0 := ⟨rfl, fun j hj => by rw [if_neg (by omega)]⟩
theorem RevTo.step {xs ys : List UInt8} {k : Nat} (h : RevTo xs ys k) (hk : k < xs.length - 1 - k) {x y : UInt8} (hx : ys[k]? = some x) (hy : ys[xs.length - 1 - k]? = some y) :
    RevTo xs ((ys.set k y).set (xs.length - 1 - k) x) (k + 1) := by
  obtain ⟨hl, h⟩ := h
  have h1 := h k (by omega)
  rw [if_neg (by omega), hx] at h1
  have h2 := h (xs.length - 1 - k) (by omega)
  rw [if_neg (by omega), hy] at h2
  refine ⟨by simp [hl], fun j hj => ?_⟩
  by_cases e1 : j = xs.length - 1 - k
  · subst e1
    rw [List.getElem?_set_self (by simp; omega), if_pos (by omega), show xs.length - 1 - (xs.length - 1 - k) = k by omega]
    exact h1
  · rw [List.getElem?_set_ne (by omega)]
    by_cases e2 : j = k
    · subst e2
      rw [List.getElem?_set_self (by omega), if_pos (by omega)]
      exact h2
    · rw [List.getElem?_set_ne (by omega), h j hj]
      by_cases e3 : j < k ∨ xs.length ≤ j + k
      · rw [if_pos e3, if_pos (by omega)]
      · rw [if_neg e3, if_neg (by omega)]
theorem RevTo.done {xs ys : List UInt8} {k : Nat} (h : RevTo xs ys k) (hk : xs.length ≤ 2 * k + 1) : ys = xs.reverse := by
  apply List.ext_getElem?
  intro j
  by_cases hj : j < xs.length
  · rw [h.2 j hj, List.getElem?_reverse hj]
    by_cases e3 : j < k ∨ xs.length ≤ j + k
    · rw [if_pos e3]
    · rw [if_neg e3, show xs.length - 1 - j = j by omega]
  · rw [List.getElem?_eq_none (by have := h.1; omega), List.getElem?_eq_none (by simp; omega)]
theorem rowU_at {l : List UInt8} {k : Nat} {x : UInt8} (h : l[k]? = some x) : (rowU l)[k]? = some (.int .u8 (x.toNat : Int)) := by simp [rowU, h]
theorem rowU_set (l : List UInt8) (k : Nat) (x : UInt8) : (rowU l).set k (.int .u8 (x.toNat : Int)) = rowU (l.set k x) := by simp [rowU, List.map_set]

set_option maxRecDepth 100000 in
set_option maxHeartbeats 1000000 in
theorem reverse_any (base g n c : Nat) (xs : List UInt8) (w : World) (hn : n ≤ 1000) (h0 : 0 < n) (hown : w.ownsRow base 5 1 (.slice (some ⟨g, 0, none⟩) n c) n (rowU xs)) :
    Calls Try.prog 39 #[.slice (some ⟨g, 0, none⟩) n c] w fun e w' => e = .returned (.tuple #[]) ∧ w'.ownsRow base 5 1 (.slice (some ⟨g, 0, none⟩) n c) n (rowU xs.reverse) ∧ Below base w w' := by
  have hl : xs.length = n := by have := hown.1; simpa [rowU] using this
  have HL := Lib.hid hl
  clear hl
  go_enter Try.func39, Try.ntmps39
  go_wp2
  go_loopw [2, 3] (fun i j wr => ∃ (k m : Nat) (ys : List UInt8), i = .int .i64 (k : Int) ∧ j = .int .i64 (m : Int) ∧ Hid (k + m = n - 1) ∧ Hid (RevTo xs ys k) ∧ Hid (wr.ownsRow base 5 1 (.slice (some ⟨g, 0, none⟩) n c) n (rowU ys)) ∧ Hid (Below base w wr)) (fun i j _ => n - (intOf i).toNat)
  case atStart => exact ⟨0, n - 1, xs, rfl, by congr 1; omega, (by show 0 + (n - 1) = n - 1; omega), RevTo.start xs, hown, Below.refl _ _⟩
  case round =>
    clear hown
    obtain ⟨k, m, ys, rfl, rfl, hkm, hr, ho, hb⟩ := hrel
    by_cases hlt : (k : Int) < (m : Int)
    · have q := hkm.out
      have hk : k < n := by omega
      have hm : m < n := by omega
      have qm : m = xs.length - 1 - k := by rw [HL.out]; omega
      have hyl := hr.out.1
      rw [HL.out] at hyl
      obtain ⟨x, hx⟩ : ∃ x, ys[k]? = some x := ⟨ys[k]'(by omega), List.getElem?_eq_getElem _⟩
      obtain ⟨y, hy⟩ : ∃ x, ys[m]? = some x := ⟨ys[m]'(by omega), List.getElem?_eq_getElem _⟩
      have q0 : wr.cell? ⟨g, k, none⟩ = some (.int .u8 (x.toNat : Int)) := (ho.out.cellAt k (by omega)).trans (rowU_at hx)
      have q1 : wr.cell? ⟨g, m, none⟩ = some (.int .u8 (y.toNat : Int)) := (ho.out.cellAt m (by omega)).trans (rowU_at hy)
      have f0 := ho.out.frozenAt k
      have f1 := ho.out.frozenAt m
      have hst := hr.out.step (by rw [HL.out]; omega) hx (by rw [← qm]; exact hy)
      rw [← qm] at hst
      have S1 := (ho.out.stored k (.int .u8 (y.toNat : Int))).1
      rw [rowU_set] at S1
      have S2 := (S1.stored m (.int .u8 (x.toNat : Int))).1
      rw [rowU_set] at S2
      have X := Lib.hid (And.intro hst (And.intro S2 (And.intro (ho.out.lt _ rfl).1 hb.out)))
      have hk0 : (0 : Int) ≤ (k : Int) := by omega
      have hkn : (k : Int) < (n : Int) := by omega
      have hm0 : (0 : Int) ≤ (m : Int) := by omega
      have hmn : (m : Int) < (n : Int) := by omega
      clear qm hyl hx hy hst S1 S2 q
      go_wp2
      go_region
      go_wp2
      go_roundw
      case rel => exact ⟨k + 1, m - 1, _, by go_num, by congr 1; omega, (by have := hkm.out; show k + 1 + (m - 1) = n - 1; omega), X.out.1, X.out.2.1.drew, ((below_set (below_set X.out.2.2.2 X.out.2.2.1 _) X.out.2.2.1 _).drew : Below base w _)⟩
      case measure => simp [intOf]; omega
    · have hfin : ys = xs.reverse := hr.out.done (by have := HL.out; have := hkm.out; omega)
      rw [hfin] at ho
      clear hfin
      go_wp2
      go_end0
      exact ⟨rfl, ho.out, hb.out⟩

theorem own_go {w' : World} {base k : Nat} {v' : Value} {ys : List Value} (hown' : w'.ownsRow base 5 1 v' k ys) (hk : 0 < k) : ∃ g c, v' = .slice (some ⟨g, 0, none⟩) k c := by
  rcases hown'.2 with ⟨_, h0⟩ | ⟨g', cap', cur, hv, _⟩
  · omega
  · exact ⟨g', cap', hv⟩
def lenV : Value → Nat
  | .slice _ n _ => n
  | _ => 0
def one0 (b : Value) : Nat := if lenV b = 0 then 1 else 0
/-- The state of the program's loop: what is left of the number, and the digits that were taken, the last one first. -/
def DigAt (n p : Int) (rs : List UInt8) : Prop := (dg p.natAbs ++ rs.reverse = dg n.natAbs ∧ (rs = [] ∨ p ≠ 0)) ∨ (rs.reverse = dg n.natAbs ∧ rs ≠ [] ∧ p = 0)
theorem dg_pos (n : Nat) : 0 < (dg n).length := by
  by_cases h : n < 10
  · rw [dg_lt h]; simp
  · rw [dg_ge (by omega)]; simp
theorem DigAt.len {n p : Int} {rs : List UInt8} (h : DigAt n p rs) (hn0 : -9223372036854775808 ≤ n) (hn1 : n ≤ 9223372036854775807) : rs.length ≤ 19 := by
  have := dg_le19 (n := n.natAbs) (by omega)
  rcases h with ⟨h, _⟩ | ⟨h, _⟩
  · have h2 := congrArg List.length h
    simp at h2
    omega
  · have h2 := congrArg List.length h
    simp at h2
    omega
theorem DigAt.next {n p : Int} {rs : List UInt8} (h : DigAt n p rs) (hc : rs = [] ∨ p ≠ 0) : DigAt n (Int.tdiv p 10) (rs ++ [UInt8.ofNat (48 + p.natAbs % 10)]) := by
  have e : (Int.tdiv p 10).natAbs = p.natAbs / 10 := by rw [Int.natAbs_tdiv]; rfl
  rcases h with ⟨h, _⟩ | ⟨_, h1, h2⟩
  · by_cases h9 : p.natAbs < 10
    · refine Or.inr ⟨?_, by simp, ?_⟩
      · rw [dg_lt h9] at h
        rw [List.reverse_append]
        simpa [Nat.mod_eq_of_lt h9] using h
      · rw [← Int.natAbs_eq_zero, e]; omega
    · refine Or.inl ⟨?_, Or.inr ?_⟩
      · rw [dg_ge (by omega)] at h
        rw [e, List.reverse_append]
        simpa using h
      · rw [Ne, ← Int.natAbs_eq_zero, e]; omega
  · rcases hc with hc | hc
    · exact absurd hc h1
    · exact absurd h2 hc

set_option maxRecDepth 100000 in
set_option maxHeartbeats 1000000 in
theorem iDigits_any (n : Int) (hn0 : -9223372036854775808 ≤ n) (hn1 : n ≤ 9223372036854775807) (w : World) :
    Calls Try.prog 28 #[.int .i64 n] w fun e w' => e = .returned (.string (strU (digM n))) ∧ Below w.heap.size w w' := by
  obtain ⟨i0, hi, hz0, hz1, hz2⟩ := info_parts info_byte
  go_enter Try.func28, Try.ntmps28
  go_wp2
  go_loopw [3, 4] (fun b x wr => ∃ (k : Nat) (p : Int) (rs : List UInt8), x = .int .i64 p ∧ -9223372036854775808 ≤ p ∧ p ≤ 9223372036854775807 ∧ k ≤ 19 ∧ Hid (rs.length = k) ∧ Hid (DigAt n p rs) ∧ wr.ownsRow w.heap.size 5 1 b k (rowU rs) ∧ Hid (Below w.heap.size w wr)) (fun b x _ => (intOf x).natAbs + one0 b)
  case atStart => exact ⟨0, n, [], rfl, hn0, hn1, by omega, (by rfl : ([] : List UInt8).length = 0), (by exact Or.inl ⟨by simp, Or.inl rfl⟩ : DigAt n n []), World.ownsRow_nil _ _ _ _, Below.refl _ _⟩
  case round =>
    obtain ⟨k, p, rs, rfl, hp0, hp1, hk19, hkr, hd, hown, hb⟩ := hrel
    obtain ⟨A, c, rfl, hA0, _⟩ := own_form hown
    by_cases hc : rs = [] ∨ p ≠ 0
    · have hm : (Int.tdiv p 10).natAbs + 0 < p.natAbs + one0 (.slice A k c) := by
        have e : (Int.tdiv p 10).natAbs = p.natAbs / 10 := by rw [Int.natAbs_tdiv]; rfl
        unfold one0 lenV
        have := hkr.out
        by_cases hp : p = 0
        · subst hp
          rcases hc with hc | hc
          · subst hc
            rw [if_pos (by simpa using this.symm)]
            simp
          · exact absurd rfl hc
        · have : p.natAbs ≠ 0 := by omega
          rw [e]
          omega
      have hnx := hd.out.next hc
      have hln := hnx.len hn0 hn1
      have hk1 : k ≤ 18 := by have := hkr.out; simp at hln; omega
      have HN := Lib.hid hnx
      have HM := Lib.hid hm
      have HS := Lib.hid hb.out.size
      have he : wrap64 (48 + max (p.tmod 10) (wrap64 (-p.tmod 10))) % 256 = ((UInt8.ofNat (48 + p.natAbs % 10)).toNat : Int) := by
        rw [UInt8.toNat_ofNat']
        have e2 : (p.tmod 10).natAbs = p.natAbs % 10 := by rw [Int.natAbs_tmod]; rfl
        rw [← e2]
        have b1 : (p.tmod 10).natAbs < 10 := by rw [e2]; omega
        generalize p.tmod 10 = r at *
        have e1 : wrap64 (-r) = -r := by unfold wrap64; omega
        rw [e1]
        have e3 : wrap64 (48 + max r (-r)) = 48 + max r (-r) := by unfold wrap64; omega
        rw [e3]
        omega
      obtain ⟨d, hdd⟩ : ∃ d, UInt8.ofNat (48 + p.natAbs % 10) = d := ⟨_, rfl⟩
      rw [hdd] at he HN
      have hsz := HS.out
      have ht : ((p != 0) = true) ∨ ((p != 0) = false ∧ k = 0) := by
        rcases hc with hc | hc
        · by_cases hp : p = 0
          · refine Or.inr ⟨by simp [hp], ?_⟩
            have := hkr.out
            subst hc
            exact this.symm
          · exact Or.inl (by simpa using hp)
        · exact Or.inl (by simpa using hc)
      clear hnx hm hdd hln hc
      obtain ⟨q, hq⟩ : ∃ q, Int.tdiv p 10 = q := ⟨_, rfl⟩
      rw [hq] at HN HM
      have hq0 : -9223372036854775808 ≤ q ∧ q ≤ 9223372036854775807 := by
        have e : (Int.tdiv p 10).natAbs = p.natAbs / 10 := by rw [Int.natAbs_tdiv]; rfl
        rw [hq] at e
        omega
      obtain ⟨hq1, hq2⟩ := hq0
      rcases ht with ht | ⟨ht, rfl⟩
      all_goals
        go_wp2_with (first
          | (at_builtin; go_must (refine wpList_append_own _ rfl _ _ 66 rfl w.heap.size 5 i0 (.int .u8 0) 1 1 Try.underlying66 hi hz0 hz1 hz2 rfl (by decide) _ _ _ rfl (hown.alloc _) ⟨wr.heap.size, 0, none⟩ 1 1 [.int .u8 (d.toNat : Int)] rfl rfl (cell_one_new _ _ _) (fun x hx => by simp at hx; subst hx; rfl) (by unfold maxLen; omega) (by omega) (by simp; omega) ?_); intro v' w3 hown' hgrow3 hnil3
             have X := Lib.hid (And.intro (show w3.ownsRow w.heap.size 5 1 v' _ (rowU (rs ++ [d])) from by rw [rowU_app]; exact hown') (Below.grown (hb.out.alloc HS.out _) hgrow3 (by simp; omega) (fun j hj => (hown.lt _ hj).1)))
             obtain ⟨g3, c3, rfl⟩ := own_go hown' (by omega)
             clear hown' hgrow3 hnil3))
        go_wp2_with fail
        go_roundw
        case rel => exact ⟨_, q, rs ++ [d], rfl, hq1, hq2, by omega, (by rw [List.length_append]; rw [hkr.out]; rfl : (rs ++ [d]).length = _), HN.out, X.out.1, X.out.2⟩
        case measure => (have := HM.out; simp [intOf, one0, lenV] at this ⊢; omega)
    · have hd2 := hd.out
      have hex : rs.reverse = dg n.natAbs ∧ rs ≠ [] ∧ p = 0 := by
        rcases hd2 with h | h
        · exact absurd h.2 hc
        · exact h
      obtain ⟨hrev, hne, rfl⟩ := hex
      have hk0 : 0 < k := by
        have := hkr.out
        cases rs with
        | nil => exact absurd rfl hne
        | cons a l => simp at this; omega
      obtain ⟨g, c', hv⟩ := own_go hown hk0
      simp only [Value.slice.injEq, true_and] at hv
      obtain ⟨rfl, rfl⟩ := hv
      have HR := Lib.hid hrev
      have hk00 : ¬ k = 0 := by omega
      have hki : ((k : Int) == 0) = false := by rw [beq_eq_false_iff_ne]; omega
      clear hd2 hc hrev hne
      by_cases hneg : n < 0
      · have HS := Lib.hid hb.out.size
        have HB := Lib.hid hb
        have hsz := HS.out
        have hkl := hkr.out
        have HKL := Lib.hid hkl
        clear hkl
        go_wp2_with (first
          | (at_builtin; go_must (refine wpList_append_own _ rfl _ _ 66 rfl w.heap.size 5 i0 (.int .u8 0) 1 1 Try.underlying66 hi hz0 hz1 hz2 rfl (by decide) _ _ _ rfl (hown.alloc _) ⟨wr.heap.size, 0, none⟩ 1 1 [.int .u8 45] rfl rfl (cell_one_new _ _ _) (fun x hx => by simp at hx; subst hx; rfl) (by unfold maxLen; omega) (by omega) (by simp; omega) ?_); intro v' w3 hown' hgrow3 hnil3
             have X := Lib.hid (And.intro (show w3.ownsRow w.heap.size 5 1 v' _ (rowU (rs ++ [45])) from by rw [rowU_app]; exact hown') (Below.grown (hb.out.alloc HS.out _) hgrow3 (by simp; omega) (fun j hj => (hown.lt _ hj).1)))
             obtain ⟨g3, c3, rfl⟩ := own_go hown' (by omega)
             clear hown' hgrow3 hnil3))
        refine Calls.mono (reverse_any w.heap.size g3 (k + 1) c3 (rs ++ [45]) w3 (by omega) (by omega) X.out.1) ?_
        rintro e w2 ⟨rfl, ho2, hb2⟩
        have hcv := conv_row _ _ _ _ _ _ ho2
        rw [List.reverse_append, HR.out] at hcv
        have Y := Lib.hid (X.out.2.trans (hb2.mono (Nat.le_refl _)))
        clear ho2 hb2 hown
        go_wp2_with fail
        go_ret
        exact ⟨by unfold digM; rw [if_neg (by omega)]; rfl, Y.out⟩
      · have hnn : 0 ≤ n := by omega
        have c1 := reverse_any w.heap.size g k c rs wr (by omega) hk0 hown
        have C1 := Lib.hid c1
        clear c1 hown
        go_wp2_with fail
        refine Calls.mono C1.out ?_
        rintro e w2 ⟨rfl, ho2, hb2⟩
        have hcv := conv_row _ _ _ _ _ _ ho2
        rw [HR.out] at hcv
        have X := Lib.hid (hb.out.trans (hb2.mono (Nat.le_refl _)))
        clear ho2 hb2
        go_wp2_with fail
        go_ret
        exact ⟨by unfold digM; rw [if_pos hnn]; rfl, X.out⟩
end Go.Proofs.Ytjalphlhooojoaa
