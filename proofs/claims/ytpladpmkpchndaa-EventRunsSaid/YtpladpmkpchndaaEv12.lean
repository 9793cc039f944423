/-
  Rows of integers: whether two are the same; whether two runs are, plain.
-/
import Derived.Test.YtpladpmkpchndaaEv9
namespace Go.Proofs.Ytpladpmkpchndaa
open Go.RowKit
set_option linter.unusedSimpArgs false
set_option linter.unusedVariables false

def eqIs (l m : List Int) : Bool := decide (l = m)
def SameI (l m : List Int) (k : Nat) : Prop := ∀ j, j < k → l[j]? = m[j]?
theorem SameI.succ {l m : List Int} {k : Nat} {x y : Int} (h : SameI l m k) (hx : l[k]? = some x) (hy : m[k]? = some y) (he : x = y) : SameI l m (k + 1) := by
  intro j hj
  by_cases hjk : j = k
  · subst hjk
    rw [hx, hy, he]
  · exact h j (by omega)
theorem SameI.all {l m : List Int} (h : SameI l m l.length) (hl : l.length = m.length) : eqIs l m = true := by
  unfold eqIs
  rw [decide_eq_true_iff]
  apply List.ext_getElem?
  intro j
  by_cases hj : j < l.length
  · exact h j hj
  · rw [List.getElem?_eq_none (by omega), List.getElem?_eq_none (by omega)]
theorem eqIs_len {l m : List Int} (h : l.length ≠ m.length) : eqIs l m = false := by
  unfold eqIs
  rw [decide_eq_false_iff_not]
  intro he
  rw [he] at h
  exact h rfl
theorem eqIs_at {l m : List Int} {k : Nat} {x y : Int} (hx : l[k]? = some x) (hy : m[k]? = some y) (h : x ≠ y) : eqIs l m = false := by
  unfold eqIs
  rw [decide_eq_false_iff_not]
  intro he
  rw [he, hy] at hx
  injection hx with hx
  exact h hx.symm
theorem eqIs_refl (l : List Int) : eqIs l l = true := by simp [eqIs]

set_option maxRecDepth 100000 in
set_option maxHeartbeats 1000000 in
theorem eqInts_any (B1 B2 : Nat) (A1 A2 : Option Addr) (n1 n2 c1 c2 : Nat) (l m : List Int) (w : World) (h1 : SlN w B1 A1 n1 c1 l) (h2 : SlN w B2 A2 n2 c2 m) :
    Calls Try.prog 100 #[.slice A1 n1 c1, .slice A2 n2 c2] w fun e w' => e = .returned (.bool (eqIs l m)) ∧ ∃ q, w' = w.drewN q := by
  have hl1 := h1.1
  have hl2 := h2.1
  have hm : n1 ≤ 9223372036854775807 := by have := h1.2.1; have := h1.2.2.1; unfold maxLen at this; omega
  by_cases hn : n1 = n2
  · subst hn
    have H1 := Lib.hid h1
    have H2 := Lib.hid h2
    have HL1 := Lib.hid hl1
    have HL2 := Lib.hid hl2
    clear h1 h2 hl1 hl2
    have hne : ((n1 : Int) != (n1 : Int)) = false := by simp
    go_enter Try.func100, Try.ntmps100
    go_wp2
    go_loopw [13] (fun i wr => ∃ k q : Nat, k ≤ n1 ∧ i = .int .i64 k ∧ wr = w.drewN q ∧ Hid (SameI l m k)) (fun i _ => n1 - (intOf i).toNat)
    case atStart => exact ⟨0, 0, Nat.zero_le _, rfl, rfl, (fun j hj => absurd hj (by omega) : SameI l m 0)⟩
    case round =>
      obtain ⟨k, q, hk, rfl, rfl, HS⟩ := hrel
      by_cases hlt : k < n1
      · obtain ⟨b1, o1, x, rfl, _, hx, hc1, _⟩ := sln_at H1.out hlt
        obtain ⟨b2, o2, y, rfl, _, hy, hd1, _⟩ := sln_at H2.out hlt
        have HX := Lib.hid hx
        have HY := Lib.hid hy
        clear hx hy
        by_cases hf : (x == y) = true
        · have HE : Hid (x = y) := Lib.hid (beq_iff_eq.1 hf)
          have hf' : (x != y) = false := by simp [bne, hf]
          go_wp2
          go_quiet (fail)
          go_wp2
          go_roundw
          case rel => exact ⟨k + 1, _, by omega, by go_num, rfl, HS.out.succ HX.out HY.out HE.out⟩
          case measure => simp [intOf]; omega
        · have hf0 : (x == y) = false := by simpa using hf
          have hf' : (x != y) = true := by simp [bne, hf0]
          have HE : Hid (eqIs l m = false) := Lib.hid (eqIs_at HX.out HY.out (by simpa using hf0))
          clear hf
          go_wp2
          go_quiet (fail)
          go_wp2
          go_ret
          exact ⟨by rw [HE.out]; rfl, q + nq, World.drewN_drewN _ _ _⟩
      · have HE : Hid (eqIs l m = true) := Lib.hid (by
          obtain rfl : k = n1 := by omega
          refine SameI.all ?_ (by rw [HL1.out, HL2.out])
          rw [HL1.out]
          exact HS.out)
        go_wp2
        go_ret
        exact ⟨by rw [HE.out]; rfl, _, rfl⟩
  · have HE : Hid (eqIs l m = false) := Lib.hid (eqIs_len (by omega))
    have hne : ((n1 : Int) != (n2 : Int)) = true := by rw [bne_iff_ne]; omega
    clear h1 h2 hl1 hl2 hn
    go_enter Try.func100, Try.ntmps100
    go_wp2
    go_ret
    exact ⟨by rw [HE.out]; rfl, 0, rfl⟩

set_option maxRecDepth 100000 in
set_option maxHeartbeats 1000000 in
theorem refInts_any (B1 B2 : Nat) (A1 A2 : Option Addr) (n1 n2 c1 c2 : Nat) (l m : List Int) (w : World) (h1 : SlN w B1 A1 n1 c1 l) (h2 : SlN w B2 A2 n2 c2 m) :
    Calls Try.prog 28 #[.slice A1 n1 c1, .slice A2 n2 c2] w fun e w' => e = .returned (.bool (eqIs l m)) ∧ ∃ q, w' = w.drewN q := by
  have hl1 := h1.1
  have hl2 := h2.1
  have hm : n1 ≤ 9223372036854775807 := by have := h1.2.1; have := h1.2.2.1; unfold maxLen at this; omega
  by_cases hn : n1 = n2
  · subst hn
    have H1 := Lib.hid h1
    have H2 := Lib.hid h2
    have HL1 := Lib.hid hl1
    have HL2 := Lib.hid hl2
    clear h1 h2 hl1 hl2
    have hne : ((n1 : Int) != (n1 : Int)) = false := by simp
    go_enter Try.func28, Try.ntmps28
    go_wp2
    go_loopw [5] (fun i wr => ∃ k q : Nat, k ≤ n1 ∧ i = .int .i64 k ∧ wr = w.drewN q ∧ Hid (SameI l m k)) (fun i _ => n1 - (intOf i).toNat)
    case atStart => exact ⟨0, 0, Nat.zero_le _, rfl, rfl, (fun j hj => absurd hj (by omega) : SameI l m 0)⟩
    case round =>
      obtain ⟨k, q, hk, rfl, rfl, HS⟩ := hrel
      by_cases hlt : k < n1
      · obtain ⟨b1, o1, x, rfl, _, hx, hc1, _⟩ := sln_at H1.out hlt
        obtain ⟨b2, o2, y, rfl, _, hy, hd1, _⟩ := sln_at H2.out hlt
        have HX := Lib.hid hx
        have HY := Lib.hid hy
        clear hx hy
        by_cases hf : (x == y) = true
        · have HE : Hid (x = y) := Lib.hid (beq_iff_eq.1 hf)
          have hf' : (x != y) = false := by simp [bne, hf]
          go_wp2
          go_quiet (fail)
          go_wp2
          go_roundw
          case rel => exact ⟨k + 1, _, by omega, by go_num, rfl, HS.out.succ HX.out HY.out HE.out⟩
          case measure => simp [intOf]; omega
        · have hf0 : (x == y) = false := by simpa using hf
          have hf' : (x != y) = true := by simp [bne, hf0]
          have HE : Hid (eqIs l m = false) := Lib.hid (eqIs_at HX.out HY.out (by simpa using hf0))
          clear hf
          go_wp2
          go_quiet (fail)
          go_wp2
          go_ret
          exact ⟨by rw [HE.out]; rfl, q + nq, World.drewN_drewN _ _ _⟩
      · have HE : Hid (eqIs l m = true) := Lib.hid (by
          obtain rfl : k = n1 := by omega
          refine SameI.all ?_ (by rw [HL1.out, HL2.out])
          rw [HL1.out]
          exact HS.out)
        go_wp2
        go_ret
        exact ⟨by rw [HE.out]; rfl, _, rfl⟩
  · have HE : Hid (eqIs l m = false) := Lib.hid (eqIs_len (by omega))
    have hne : ((n1 : Int) != (n2 : Int)) = true := by rw [bne_iff_ne]; omega
    clear h1 h2 hl1 hl2 hn
    go_enter Try.func28, Try.ntmps28
    go_wp2
    go_ret
    exact ⟨by rw [HE.out]; rfl, 0, rfl⟩

/-- Whether two runs are the same, but for their steps. -/
def runEq (a b : DRun) : Bool := (((decide (a.events.length = b.events.length) && begL eqV a.events b.events) && (decide (a.chain.length = b.chain.length) && begL eqP a.chain b.chain)) && (a.fin == b.fin)) && eqIs a.results b.results
theorem eqV_symm (x y : DEvent) : eqV x y = eqV y x := by
  unfold eqV eqH
  rw [eqEs_symm, Bool.beq_comm (a := x.kind), Bool.beq_comm (a := x.n), Bool.beq_comm (a := x.m)]
theorem begL_symm {α : Type} (f : α → α → Bool) (hs : ∀ x y, f x y = f y x) : ∀ (l m : List α), l.length = m.length → begL f l m = begL f m l
  | [], [], _ => rfl
  | a :: l, b :: m, h => by
    show (f a b && begL f l m) = (f b a && begL f m l)
    rw [hs a b, begL_symm f hs l m (by simpa using h)]
/-- The document's way to say it. -/
theorem runEq_ref (a b : DRun) : runEq a b = ((((begL eqV a.events b.events && begL eqV b.events a.events) && (a.fin == b.fin)) && eqIs a.results b.results) && (decide (a.chain.length = b.chain.length) && begL eqP a.chain b.chain)) := by
  unfold runEq
  have h : (decide (a.events.length = b.events.length) && begL eqV a.events b.events) = (begL eqV a.events b.events && begL eqV b.events a.events) := by
    by_cases h1 : a.events.length = b.events.length
    · rw [← begL_symm eqV eqV_symm _ _ h1]
      simp [h1]
    · rcases Nat.lt_or_gt_of_ne h1 with h2 | h2
      · rw [begL_long eqV _ _ h2]
        simp [h1]
      · rw [begL_long eqV _ _ h2]
        simp [h1]
  rw [h]
  cases (begL eqV a.events b.events && begL eqV b.events a.events) <;> cases (decide (a.chain.length = b.chain.length) && begL eqP a.chain b.chain) <;> cases (a.fin == b.fin) <;> cases (eqIs a.results b.results) <;> rfl
theorem begL_refl {α : Type} (f : α → α → Bool) (hf : ∀ x, f x x = true) (l : List α) : begL f l l = true := by
  have := begL_take f hf l l.length
  rwa [List.take_length] at this
theorem runEq_same (a : DRun) (s : Int) : runEq a { a with steps := s } = true := by
  unfold runEq
  simp only
  rw [begL_refl eqV eqV_refl, begL_refl eqP eqP_refl, eqIs_refl]
  simp
end Go.Proofs.Ytpladpmkpchndaa
