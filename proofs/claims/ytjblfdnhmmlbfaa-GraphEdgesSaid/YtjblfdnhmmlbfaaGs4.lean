/-
  Graphs of programs: the keys of a map, rising.
-/
import Derived.Test.YtjblfdnhmmlbfaaGs3
import Derived.Test.YtjblfdnhmmlbfaaSrt
import Derived.Maps.RangeWalk
import Derived.Maps.Views
import Derived.Maps.OwnOps
namespace Go.Proofs.Ytjblfdnhmmlbfaa
open Go.RowKit Go.Maps
set_option linter.unusedSimpArgs false
set_option linter.unusedVariables false
abbrev MapI (w : World) (b n : Nat) (D : DataW Unit) : Prop := w.ownsMap Try.prog 3 (plainElem (H := Unit) Try.prog 3) b n D
theorem law_int : Keyed Try.prog 3 := int_keyed Try.underlying3
theorem zero_int (w : World) : (zeroValue 3).run Try.prog w = .ok (.int .i64 0) w := by kernel_rfl
def hasI (D : DataW Unit) (x : Int) : Bool := Maps.has D (.int .i64 x)
/-- What has been met so far. -/
structure Met (D : DataW Unit) (left : Lit → Bool) (l : List Int) : Prop where
  nd : l.Nodup
  mem : ∀ x : Int, x ∈ l ↔ (hasI D x = true ∧ left (.int .i64 x) = false)
theorem Met.start (D : DataW Unit) : Met D (Maps.has D) [] := ⟨List.nodup_nil, fun x => by
  unfold hasI
  cases Maps.has D (.int .i64 x) <;> simp⟩
theorem same_int (x : Int) : (Lit.int .i64 x).sameKey (.int .i64 x) = true := by simp [Lit.sameKey]
theorem Met.step {D : DataW Unit} {left : Lit → Bool} {l : List Int} (h : Met D left l) {x : Int} {y : DataW Unit} (hl : left (.int .i64 x) = true) (hat : ∀ zd, D.atKey (.int .i64 x) zd = y) : Met D (fun z => left z && !z.sameKey (.int .i64 x)) (l ++ [x]) := by
  have hx : hasI D x = true := has_true_of_atKey hat
  have hn : x ∉ l := fun hm => by
    have := ((h.mem x).1 hm).2
    rw [hl] at this
    cases this
  refine ⟨List.nodup_append.2 ⟨h.nd, by simp, fun a ha b hb e => by simp at hb; subst hb; subst e; exact hn ha⟩, fun z => ?_⟩
  rw [List.mem_append, List.mem_singleton]
  by_cases e : z = x
  · subst e
    simp [hx, same_int]
  · have hs : (Lit.int .i64 z).sameKey (.int .i64 x) = false := sameKey_ne (fun h => e (by injection h))
    simp [e, hs, h.mem z]
theorem Met.all {D : DataW Unit} {left : Lit → Bool} {l : List Int} (h : Met D left l) (hl : ∀ kl, left kl = false) : l.Nodup ∧ ∀ x, x ∈ l ↔ hasI D x = true := ⟨h.nd, fun x => by rw [h.mem x, hl]; simp⟩
def IsKeys (D : DataW Unit) (n : Nat) (w : World) (e : Ending) (w' : World) : Prop := ∃ A m c l, e = .returned (.slice A m c) ∧ m ≤ n ∧ (l.Nodup ∧ ∀ x, x ∈ l ↔ hasI D x = true) ∧ w'.ownsRow w.heap.size 3 1 (.slice A m c) m (rowI (sortL l)) ∧ Below w.heap.size w w'
/-- What stands while the keys are gathered. -/
structure KeyW (w : World) (b r n : Nat) (D : DataW Unit) (A : Option Addr) (m c : Nat) (cnt : Nat) (W : World) : Prop where
  ex : ∃ left l, W.ranges Try.prog 3 (plainElem (H := Unit) Try.prog 3) b r n D left cnt ∧ Met D left l ∧ W.ownsRow w.heap.size 3 1 (.slice A m c) m (rowI l)
  bw : Below w.heap.size w W
set_option maxRecDepth 100000 in
set_option maxHeartbeats 4000000 in
theorem keys_any (b n : Nat) (D : DataW Unit) (w : World) (h : MapI w b n D) (hn : n ≤ 1000) :
    Calls Try.prog 23 #[.map (some b)] w (IsKeys D n w) := by
  obtain ⟨i0, hi, hz0, hz1, hz2⟩ := info_parts info_int
  have hsz := h.size_le
  have hblt : b < w.heap.size := h.lt
  go_enter Try.func23, Try.ntmps23
  go_wp2_with (first
    | (at_range; refine wpList_range_own _ rfl _ 54 rfl 3 3 law_int Try.underlying54 _ b n D rfl h ?_
       intro w0 hrg0 hg0 hs0)
    | fail)
  go_frame
  obtain ⟨r, hr⟩ : ∃ r, w.heap.size = r := ⟨_, rfl⟩
  have hbr : Hid (b < r) := Lib.hid (by omega)
  have HR0 : Hid (KeyW w b r n D none 0 0 (Maps.size D) w0) := Lib.hid ⟨⟨_, [], by rw [← hr]; exact hrg0, Met.start D, ⟨rfl, .inl ⟨rfl, rfl⟩⟩⟩, (Below.refl _ _).grown hg0 (Nat.le_refl _) (fun k hk => by cases hk)⟩
  have hrE := Lib.hid hr
  have hbw : Hid (b < w.heap.size) := Lib.hid hblt
  rw [hr]
  clear hrg0 hg0 hs0 h hr hblt
  go_loopw [3] (fun o wr => ∃ (m cnt : Nat) (A1 : Option Addr) (c1 : Nat), o = .slice A1 m c1 ∧ m + cnt ≤ n ∧ Hid (KeyW w b r n D A1 m c1 cnt wr)) (fun _ wr => wr.rangeLeft b r)
  case atStart => exact ⟨0, Maps.size D, none, 0, rfl, by omega, HR0⟩
  case round =>
    obtain ⟨m, cnt, A1, c1, rfl, hmc, HK⟩ := hrel
    clear HR0
    obtain ⟨left, l, hrg, hmet, hown⟩ := HK.out.ex
    have HB := Lib.hid HK.out.bw
    have HO := Lib.hid hown
    have HM := Lib.hid hmet
    have HG := Lib.hid hrg
    have hri := Lib.hid (row_ne_iter hown hrg)
    clear HK hown hmet
    go_wp2_with (first
      | (at_next; refine wpList_next_ranges_ii _ rfl _ rfl 3 3 .i64 .i64 law_int Try.underlying3 Try.underlying3 b r n _ _ _ rfl hrg ?_ ?_)
      | fail)
    · intro hc0 hl0
      clear hrg
      have hm : m ≤ n := by omega
      have HA := Lib.hid (HM.out.all hl0)
      have cS := Lib.hid (sort_own wr HO.out (by omega))
      clear hl0 hc0
      go_wp2_with fail
      refine cS.out.mono ?_
      rintro e w2 ⟨⟨v, rfl⟩, ho2, hg2⟩
      have HO2 := Lib.hid ho2
      have HB2 : Hid (Below w.heap.size w w2) := Lib.hid (HB.out.grown hg2 HB.out.size (fun k hk => (HO.out.lt k hk).1))
      clear ho2 hg2 cS
      go_wp2_with fail
      go_ret
      exact ⟨A1, m, c1, l, rfl, hm, HA.out, HO2.out, HB2.out⟩
    · intro x c w1 cnt1 hwx hwc hlx hat hrg1 hlt hg1 hs1 hen
      have HM1 := Lib.hid (HM.out.step hlx hat)
      have HG1 := Lib.hid hrg1
      have HO1 : Hid (w1.ownsRow w.heap.size 3 1 (.slice A1 m c1) m (rowI l)) := Lib.hid (HO.out.kept hg1 (Or.inr (fun e => hri.out e.symm)))
      have HB1 : Hid (Below w.heap.size w w1) := Lib.hid (HB.out.grown hg1 HB.out.size (fun k hk => by cases hk; have := hbr.out; have := hrE.out; omega))
      have HS1 : Hid (w.heap.size ≤ w1.heap.size) := Lib.hid HB1.out.size
      have hcm : m + 1 + cnt1 ≤ n := by omega
      have HLE : Hid (wr.rangeLeft b r = cnt) := Lib.hid HG.out.left_eq
      have HLT := Lib.hid hlt
      clear hrg1 hg1 hs1 hlx hat hlt hrg HM HG HO HB hmc
      have hsrc := Lib.hid (src_int w1 x)
      go_wp2_with (first
        | (at_builtin; go_must (refine wpList_append_src _ rfl _ _ 30 rfl w.heap.size 3 i0 (.int .i64 0) 1 8 Try.underlying30 hi hz0 hz1 hz2 rfl (by decide) _ _ _ rfl (HO1.out.alloc _) (some ⟨w1.heap.size, 0, none⟩) 1 1 [.int .i64 x] rfl hsrc.out (one_int x) (by unfold maxLen; omega) (by omega) (by have := HS1.out; simp; omega) ?_)
           intro v' w4 hown' hgrow3 hat3
           have hrk : Hid (w4.ranges Try.prog 3 (plainElem (H := Unit) Try.prog 3) b r n D (fun z => left z && !z.sameKey (.int .i64 x)) cnt1) := Lib.hid ((HG1.out.alloc _).kept hgrow3 (row_ne_low HO1.out hbw.out) (row_ne_iter HO1.out HG1.out))
           obtain ⟨A', c', rfl, X1, X2, _⟩ := app_int HB1.out HS1.out HO1.out hown' hgrow3
           have HN : Hid (KeyW w b r n D A' (m + 1) c' cnt1 w4) := Lib.hid ⟨⟨_, _, hrk.out, HM1.out, X1⟩, X2⟩
           clear X1 X2 hown' hgrow3 hat3 hen)
        | fail)
      go_roundw
      case rel => exact ⟨m + 1, cnt1, A', c', rfl, hcm, HN⟩
      case measure =>
        have e1 := HLE.out
        have e2 := hrk.out.left_eq
        have e3 := HLT.out
        rw [e1, e2]
        exact e3

end Go.Proofs.Ytjblfdnhmmlbfaa
