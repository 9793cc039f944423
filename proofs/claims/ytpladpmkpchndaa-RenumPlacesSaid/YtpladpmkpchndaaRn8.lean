/-
  Other numbers: the walk of RenumPlaces.
-/
import Derived.Test.YtpladpmkpchndaaRn5
namespace Go.Proofs.Ytpladpmkpchndaa
open Go.RowKit
set_option linter.unusedSimpArgs false
set_option linter.unusedVariables false

/-- The k-th place and length are as they should be. -/
structure Good (ps ls : List Int) (n k : Nat) : Prop where
  p0 : 0 ≤ ps.getD k (-1)
  p1 : ps.getD k (-1) < (n : Int)
  up : 0 < k → ps.getD (k - 1) (-1) < ps.getD k (-1)
  l0 : 0 ≤ ls.getD k 0
  l1 : ls.getD k 0 ≤ 50
theorem good_up {ps ls : List Int} {n a : Nat} (h : ∀ k, k < a → Good ps ls n k) : ∀ j k, j < k → k < a → ps.getD j (-1) < ps.getD k (-1) := by
  intro j k hjk hka
  obtain ⟨d, rfl⟩ : ∃ d, k = j + 1 + d := ⟨k - j - 1, by omega⟩
  induction d with
  | zero =>
    have := (h (j + 1 + 0) hka).up (by omega)
    rw [show j + 1 + 0 - 1 = j by omega] at this
    exact this
  | succ d ih =>
    have h1 := ih (by omega) (by omega)
    have h2 := (h (j + 1 + (d + 1)) hka).up (by omega)
    rw [show j + 1 + (d + 1) - 1 = j + 1 + d by omega] at h2
    omega
theorem good_ok {ps ls : List Int} {n a : Nat} (h : ∀ k, k < a → Good ps ls n k) (hl : ls.length = a) : Okl ps ls n a := by
  refine ⟨fun k hk => ⟨(h k hk).p0, (h k hk).p1⟩, fun j k h1 h2 e => ?_, fun x hx => ?_⟩
  · have := good_up h j k h1 h2
    omega
  · obtain ⟨i, hi, rfl⟩ := List.getElem_of_mem hx
    have e : ls.getD i 0 = ls[i] := by rw [List.getD_eq_getElem?_getD, List.getElem?_eq_getElem hi]; rfl
    have g := h i (by omega)
    rw [← e]
    exact ⟨g.l0, g.l1⟩
theorem good_ways (ps ls : List Int) (n k : Nat) : ps.getD k (-1) < 0 ∨ (0 ≤ ps.getD k (-1) ∧ (n : Int) ≤ ps.getD k (-1)) ∨ (0 ≤ ps.getD k (-1) ∧ ps.getD k (-1) < (n : Int) ∧ 0 < k ∧ ps.getD k (-1) ≤ ps.getD (k - 1) (-1)) ∨
    (0 ≤ ps.getD k (-1) ∧ ps.getD k (-1) < (n : Int) ∧ (0 < k → ps.getD (k - 1) (-1) < ps.getD k (-1)) ∧ (ls.getD k 0 < 0 ∨ (0 ≤ ls.getD k 0 ∧ 50 < ls.getD k 0))) ∨ Good ps ls n k := by
  by_cases h1 : ps.getD k (-1) < 0
  · exact .inl h1
  · by_cases h2 : (n : Int) ≤ ps.getD k (-1)
    · exact .inr (.inl ⟨by omega, h2⟩)
    · by_cases h3 : 0 < k ∧ ps.getD k (-1) ≤ ps.getD (k - 1) (-1)
      · exact .inr (.inr (.inl ⟨by omega, by omega, h3.1, h3.2⟩))
      · by_cases h4 : ls.getD k 0 < 0
        · exact .inr (.inr (.inr (.inl ⟨by omega, by omega, fun h => by omega, .inl h4⟩)))
        · by_cases h5 : 50 < ls.getD k 0
          · exact .inr (.inr (.inr (.inl ⟨by omega, by omega, fun h => by omega, .inr ⟨by omega, h5⟩⟩)))
          · exact .inr (.inr (.inr (.inr ⟨by omega, by omega, fun h => by omega, by omega, by omega⟩)))
/-- A fact that is let go of. -/
theorem isl_same {n m : Nat} {l : List Int} (h : n = m) : IsL n l = IsL m l := by rw [h]

set_option maxRecDepth 100000 in
set_option maxHeartbeats 8000000 in
theorem renumPlaces_few (n c0 a c c' : Nat) (A0 A A' : Option Addr) (l ps ls : List Int) (w : World) (h0 : SlI w w.heap.size A0 n c0 l) (h : SlI w w.heap.size A a c ps) (h' : SlI w w.heap.size A' a c' ls) (hn : n ≤ 200) (ha : a ≤ 40) :
    Calls Try.prog 5 #[.slice A0 n c0, .slice A a c, .slice A' a c'] w fun e w' => e = .returned (.bool true) ∧ Below w.heap.size w w' := by
  have H0 := Lib.hid h0
  have H := Lib.hid h
  have H' := Lib.hid h'
  have t0 : ((a : Int) != (a : Int)) = false := by simp
  have hn2 : (n : Int) ≤ 200 := by omega
  have ha2 : (a : Int) ≤ 40 := by omega
  clear h0 h h'
  go_enter Try.func5, Try.ntmps5
  go_wp2_with fail
  go_loopw [7] (fun i wr => ∃ k : Nat, i = .int .i64 k ∧ k ≤ a ∧ Hid (∀ j, j < k → Good ps ls n j) ∧ Hid (Below w.heap.size w wr)) (fun i _ => a - (intOf i).toNat)
  case atStart => exact ⟨0, rfl, Nat.zero_le _, Lib.hid (fun j hj => absurd hj (by omega)), Lib.hid (Below.refl _ _)⟩
  case round =>
    obtain ⟨k, rfl, hk, hg, hb⟩ := hrel
    by_cases hlt : k < a
    · obtain ⟨b, off, rfl, hbB, r0⟩ := H.out.getD hlt (-1)
      obtain ⟨b', off', rfl, hbB', r1⟩ := H'.out.getD hlt 0
      have q0 : wr.cell? ⟨b, off + k, none⟩ = some (.int .i64 (ps.getD k (-1))) := (hb.out.cell hbB).trans r0
      have q1 : wr.cell? ⟨b', off' + k, none⟩ = some (.int .i64 (ls.getD k 0)) := (hb.out.cell hbB').trans r1
      have hka : (k : Int) < (a : Int) := by omega
      have hk0 : (0 : Int) ≤ (k : Int) := by omega
      have HW := Lib.hid (good_ways ps ls n k)
      have HG : Hid (Good ps ls n k → ∀ j, j < k + 1 → Good ps ls n j) := Lib.hid (fun g j hj => by
        by_cases e : j = k
        · rw [e]; exact g
        · exact hg.out j (by omega))
      have HP : Hid (0 < k → wr.cell? ⟨b, off + (k - 1), none⟩ = some (.int .i64 (ps.getD (k - 1) (-1)))) := Lib.hid (fun hk1 => by
        obtain ⟨b2, off2, e2, _, r2⟩ := H.out.getD (show k - 1 < a by omega) (-1)
        injection e2 with e2
        simp only [Addr.mk.injEq, and_true] at e2
        obtain ⟨rfl, rfl⟩ := e2
        exact (hb.out.cell hbB).trans r2)
      clear r0 r1 hbB hbB'
      have ways := HW.out
      obtain ⟨p, hp⟩ : ∃ p, ps.getD k (-1) = p := ⟨_, rfl⟩
      obtain ⟨v, hv⟩ : ∃ v, ls.getD k 0 = v := ⟨_, rfl⟩
      obtain ⟨pp, hpp⟩ : ∃ pp, ps.getD (k - 1) (-1) = pp := ⟨_, rfl⟩
      rw [hp, hv, hpp] at ways
      rw [hp] at q0
      rw [hv] at q1
      rw [hpp] at HP
      have HGG : Hid ((0 ≤ p ∧ p < (n : Int) ∧ (0 < k → pp < p) ∧ 0 ≤ v ∧ v ≤ 50) → ∀ j, j < k + 1 → Good ps ls n j) := Lib.hid (fun g => HG.out ⟨by rw [hp]; exact g.1, by rw [hp]; exact g.2.1, by rw [hp, hpp]; exact g.2.2.1, by rw [hv]; exact g.2.2.2.1, by rw [hv]; exact g.2.2.2.2⟩)
      have hways : p < 0 ∨ (0 ≤ p ∧ (n : Int) ≤ p) ∨ (0 ≤ p ∧ p < (n : Int) ∧ 0 < k ∧ p ≤ pp) ∨ (0 ≤ p ∧ p < (n : Int) ∧ (0 < k → pp < p) ∧ (v < 0 ∨ (0 ≤ v ∧ 50 < v))) ∨ (0 ≤ p ∧ p < (n : Int) ∧ (0 < k → pp < p) ∧ 0 ≤ v ∧ v ≤ 50) := by
        rcases ways with g | g | g | g | g
        · exact .inl g
        · exact .inr (.inl g)
        · exact .inr (.inr (.inl g))
        · exact .inr (.inr (.inr (.inl g)))
        · exact .inr (.inr (.inr (.inr ⟨by rw [← hp]; exact g.p0, by rw [← hp]; exact g.p1, by rw [← hp, ← hpp]; exact g.up, by rw [← hv]; exact g.l0, by rw [← hv]; exact g.l1⟩)))
      clear ways HW HG hp hv hpp
      have hcases : (p < 0) ∨ (0 ≤ p ∧ (n : Int) ≤ p) ∨ (0 ≤ p ∧ p < (n : Int) ∧ (0 : Int) < (k : Int) ∧ p ≤ pp) ∨ (0 ≤ p ∧ p < (n : Int) ∧ k = 0 ∧ v < 0) ∨ (0 ≤ p ∧ p < (n : Int) ∧ k = 0 ∧ 0 ≤ v ∧ 50 < v) ∨ (0 ≤ p ∧ p < (n : Int) ∧ k = 0 ∧ 0 ≤ v ∧ v ≤ 50) ∨
          (0 ≤ p ∧ p < (n : Int) ∧ (0 : Int) < (k : Int) ∧ pp < p ∧ v < 0) ∨ (0 ≤ p ∧ p < (n : Int) ∧ (0 : Int) < (k : Int) ∧ pp < p ∧ 0 ≤ v ∧ 50 < v) ∨ (0 ≤ p ∧ p < (n : Int) ∧ (0 : Int) < (k : Int) ∧ pp < p ∧ 0 ≤ v ∧ v ≤ 50) := by
        clear HGG HP q0 q1
        rcases Nat.eq_zero_or_pos k with h0 | h0 <;> omega
      clear hways
      rcases hcases with h1 | ⟨h1, h2⟩ | ⟨h1, h2, h3, h4⟩ | ⟨h1, h2, h3, h4⟩ | ⟨h1, h2, h3, h4, h5⟩ | ⟨h1, h2, h3, h4, h5⟩ | ⟨h1, h2, h3, h4, h5⟩ | ⟨h1, h2, h3, h4, h5, h6⟩ | ⟨h1, h2, h3, h4, h5, h6⟩
      · have d1 : decide (p < 0) = true := decide_eq_true (by omega)
        go_wp2_with fail
        go_quiet (fail)
        go_wp2_with fail
        refine (renum_lives _).mono ?_
        rintro e w9 ⟨rfl, hb9⟩
        go_wp2_with fail
        go_ret
        exact ⟨rfl, bl_trans (below_drewN' hb.out _) (by have := hb.out.size; simpa using this) hb9⟩
      · have d1 : decide (p < 0) = false := decide_eq_false (by omega)
        have d2 : decide ((n : Int) ≤ p) = true := decide_eq_true (by omega)
        go_wp2_with fail
        go_quiet (fail)
        go_wp2_with fail
        refine (renum_lives _).mono ?_
        rintro e w9 ⟨rfl, hb9⟩
        go_wp2_with fail
        go_ret
        exact ⟨rfl, bl_trans (below_drewN' hb.out _) (by have := hb.out.size; simpa using this) hb9⟩
      · have hkk : ((k : Int) - 1).toNat = k - 1 := by omega
        have hk1 : (0 : Int) ≤ (k : Int) - 1 := by omega
        have hk2 : (k : Int) - 1 < (a : Int) := by omega
        have q2 := HP.out (by omega)
        have d1 : decide (p < 0) = false := decide_eq_false (by omega)
        have d2 : decide ((n : Int) ≤ p) = false := decide_eq_false (by omega)
        have d3 : decide (0 < k) = true := decide_eq_true (by omega)
        have d4 : decide (p ≤ pp) = true := decide_eq_true (by omega)
        go_wp2_with fail
        go_quiet (fail)
        go_wp2_with fail
        refine (renum_lives _).mono ?_
        rintro e w9 ⟨rfl, hb9⟩
        go_wp2_with fail
        go_ret
        exact ⟨rfl, bl_trans (below_drewN' hb.out _) (by have := hb.out.size; simpa using this) hb9⟩
      · have d1 : decide (p < 0) = false := decide_eq_false (by omega)
        have d2 : decide ((n : Int) ≤ p) = false := decide_eq_false (by omega)
        have d3 : decide (0 < k) = false := decide_eq_false (by omega)
        have d5 : decide (v < 0) = true := decide_eq_true (by omega)
        have HK0 := Lib.hid h3
        clear h3
        go_wp2_with fail
        go_quiet (fail)
        go_wp2_with fail
        refine (renum_lives _).mono ?_
        rintro e w9 ⟨rfl, hb9⟩
        go_wp2_with fail
        go_ret
        exact ⟨rfl, bl_trans (below_drewN' hb.out _) (by have := hb.out.size; simpa using this) hb9⟩
      · have d1 : decide (p < 0) = false := decide_eq_false (by omega)
        have d2 : decide ((n : Int) ≤ p) = false := decide_eq_false (by omega)
        have d3 : decide (0 < k) = false := decide_eq_false (by omega)
        have d5 : decide (v < 0) = false := decide_eq_false (by omega)
        have d6 : decide (50 < v) = true := decide_eq_true (by omega)
        have HK0 := Lib.hid h3
        clear h3
        go_wp2_with fail
        go_quiet (fail)
        go_wp2_with fail
        refine (renum_lives _).mono ?_
        rintro e w9 ⟨rfl, hb9⟩
        go_wp2_with fail
        go_ret
        exact ⟨rfl, bl_trans (below_drewN' hb.out _) (by have := hb.out.size; simpa using this) hb9⟩
      · have d1 : decide (p < 0) = false := decide_eq_false (by omega)
        have d2 : decide ((n : Int) ≤ p) = false := decide_eq_false (by omega)
        have d3 : decide (0 < k) = false := decide_eq_false (by omega)
        have d5 : decide (v < 0) = false := decide_eq_false (by omega)
        have d6 : decide (50 < v) = false := decide_eq_false (by omega)
        have HK0 := Lib.hid h3
        clear h3
        go_wp2_with fail
        go_quiet (fail)
        go_wp2_with fail
        go_roundw
        case rel => exact ⟨k + 1, by go_num, by omega, Lib.hid (HGG.out ⟨h1, h2, fun _ => by have := HK0.out; omega, h4, h5⟩), Lib.hid (below_drewN' hb.out _)⟩
        case measure => simp [intOf]; omega
      · have hkk : ((k : Int) - 1).toNat = k - 1 := by omega
        have hk1 : (0 : Int) ≤ (k : Int) - 1 := by omega
        have hk2 : (k : Int) - 1 < (a : Int) := by omega
        have q2 := HP.out (by omega)
        have d1 : decide (p < 0) = false := decide_eq_false (by omega)
        have d2 : decide ((n : Int) ≤ p) = false := decide_eq_false (by omega)
        have d3 : decide (0 < k) = true := decide_eq_true (by omega)
        have d4 : decide (p ≤ pp) = false := decide_eq_false (by omega)
        have d5 : decide (v < 0) = true := decide_eq_true (by omega)
        go_wp2_with fail
        go_quiet (fail)
        go_wp2_with fail
        refine (renum_lives _).mono ?_
        rintro e w9 ⟨rfl, hb9⟩
        go_wp2_with fail
        go_ret
        exact ⟨rfl, bl_trans (below_drewN' hb.out _) (by have := hb.out.size; simpa using this) hb9⟩
      · have hkk : ((k : Int) - 1).toNat = k - 1 := by omega
        have hk1 : (0 : Int) ≤ (k : Int) - 1 := by omega
        have hk2 : (k : Int) - 1 < (a : Int) := by omega
        have q2 := HP.out (by omega)
        have d1 : decide (p < 0) = false := decide_eq_false (by omega)
        have d2 : decide ((n : Int) ≤ p) = false := decide_eq_false (by omega)
        have d3 : decide (0 < k) = true := decide_eq_true (by omega)
        have d4 : decide (p ≤ pp) = false := decide_eq_false (by omega)
        have d5 : decide (v < 0) = false := decide_eq_false (by omega)
        have d6 : decide (50 < v) = true := decide_eq_true (by omega)
        go_wp2_with fail
        go_quiet (fail)
        go_wp2_with fail
        refine (renum_lives _).mono ?_
        rintro e w9 ⟨rfl, hb9⟩
        go_wp2_with fail
        go_ret
        exact ⟨rfl, bl_trans (below_drewN' hb.out _) (by have := hb.out.size; simpa using this) hb9⟩
      · have hkk : ((k : Int) - 1).toNat = k - 1 := by omega
        have hk1 : (0 : Int) ≤ (k : Int) - 1 := by omega
        have hk2 : (k : Int) - 1 < (a : Int) := by omega
        have q2 := HP.out (by omega)
        have d1 : decide (p < 0) = false := decide_eq_false (by omega)
        have d2 : decide ((n : Int) ≤ p) = false := decide_eq_false (by omega)
        have d3 : decide (0 < k) = true := decide_eq_true (by omega)
        have d4 : decide (p ≤ pp) = false := decide_eq_false (by omega)
        have d5 : decide (v < 0) = false := decide_eq_false (by omega)
        have d6 : decide (50 < v) = false := decide_eq_false (by omega)
        go_wp2_with fail
        go_quiet (fail)
        go_wp2_with fail
        go_roundw
        case rel => exact ⟨k + 1, by go_num, by omega, Lib.hid (HGG.out ⟨h1, h2, fun _ => h4, h5, h6⟩), Lib.hid (below_drewN' hb.out _)⟩
        case measure => simp [intOf]; omega
    · have hkn : k = a := by omega
      subst hkn
      have hok : Okl ps ls n k := good_ok hg.out H'.out.1
      have i0 := Lib.hid (H0.out.on hb.out)
      have i1 := Lib.hid (H.out.on hb.out)
      have i2 := Lib.hid (H'.out.on hb.out)
      have hsl : (sprd (lk ps ls k) l n).length ≤ 50 * n := sprd_len (fun i => lk_bd hok.len i k) l n
      have HK := Lib.hid hok
      clear hok H0 H H' hg
      go_wp2_with fail
      refine (places_any n k c k c' A A' ps ls _ hn i1.out i2.out (by omega) HK.out).mono ?_
      rintro e w1 ⟨B1, d1, rfl, s1, b1⟩
      have S1 := Lib.hid s1
      have HB1 := Lib.hid b1
      clear s1 b1
      go_wp2_with fail
      refine (refPlaces_any n k c k c' A A' ps ls _ hn (i1.out.on HB1.out) (i2.out.on HB1.out) (by omega) HK.out).mono ?_
      rintro e w2 ⟨B2, d2, rfl, s2, b2⟩
      have S2 := Lib.hid s2
      have S12 := Lib.hid (S1.out.on b2)
      have HB2 := Lib.hid (bl_trans HB1.out HB1.out.size b2)
      clear s2 b2
      go_wp2_with fail
      refine (ints_same (n + 1) d1 d2 B1 B2 _ _ S12.out S2.out (by omega)).mono ?_
      rintro e w3 ⟨rfl, b3⟩
      have HB3 := Lib.hid (bl_trans HB2.out HB2.out.size b3)
      clear b3 S1 S2 S12
      go_wp2_with fail
      refine (spread_any n k c0 c k c' A0 A A' l ps ls _ hn (i0.out.on HB3.out) (i1.out.on HB3.out) (i2.out.on HB3.out) (by omega) HK.out).mono ?_
      rintro e w4 ⟨B4, d4, rfl, s4, b4⟩
      have S4 := Lib.hid s4
      have HB4 := Lib.hid (bl_trans HB3.out HB3.out.size b4)
      clear s4 b4
      go_wp2_with fail
      refine (refSpread_any n k c0 c k c' A0 A A' l ps ls _ hn (i0.out.on HB4.out) (i1.out.on HB4.out) (i2.out.on HB4.out) (by omega) HK.out).mono ?_
      rintro e w5 ⟨B5, d5, rfl, s5, b5⟩
      have S5 := Lib.hid s5
      have S45 := Lib.hid (S4.out.on b5)
      have HB5 := Lib.hid (bl_trans HB4.out HB4.out.size b5)
      clear s5 b5
      go_wp2_with fail
      refine (ints_same _ d4 d5 B4 B5 _ _ S45.out S5.out (by omega)).mono ?_
      rintro e w6 ⟨rfl, b6⟩
      have HB6 := Lib.hid (bl_trans HB5.out HB5.out.size b6)
      clear b6
      go_wp2_with fail
      refine (renum_lives _).mono ?_
      rintro e w7 ⟨rfl, b7⟩
      have HB7 := Lib.hid (bl_trans HB6.out HB6.out.size b7)
      clear b7
      go_wp2_with fail
      go_ret
      exact ⟨rfl, bl_trans hb.out hb.out.size HB7.out⟩

set_option maxRecDepth 100000 in
set_option maxHeartbeats 1000000 in
theorem renumPlaces_walk (A0 : Option Addr) (n c0 : Nat) (l : List Int) (A : Option Addr) (a c : Nat) (ps : List Int) (A' : Option Addr) (a' c' : Nat) (ls : List Int) (w : World) (h0 : SlR 1 8 (RInt .i64) w w.heap.size A0 n c0 l) (h : SlR 1 8 (RInt .i64) w w.heap.size A a c ps) (h' : SlR 1 8 (RInt .i64) w w.heap.size A' a' c' ls) :
    Calls Try.prog 5 #[.slice A0 n c0, .slice A a c, .slice A' a' c'] w fun e w' => e = .returned (.bool true) ∧ Below w.heap.size w w' := by
  by_cases hg : n ≤ 200 ∧ a ≤ 40 ∧ a' = a
  · obtain ⟨hn, ha, rfl⟩ := hg
    exact renumPlaces_few n c0 a' c c' A0 A A' l ps ls w (sli_of h0) (sli_of h) (sli_of h') hn ha
  · clear h0 h h'
    have hw : (200 : Int) < (n : Int) ∨ ((n : Int) ≤ 200 ∧ (40 : Int) < (a : Int)) ∨ ((n : Int) ≤ 200 ∧ (a : Int) ≤ 40 ∧ ¬ (a' : Int) = (a : Int)) := by omega
    rcases hw with h1 | ⟨h1, h2⟩ | ⟨h1, h2, h3⟩
    · clear hg
      go_enter Try.func5, Try.ntmps5
      go_wp2_with fail
      refine (renum_lives _).mono ?_
      rintro e w1 ⟨rfl, hb⟩
      go_wp2_with fail
      go_ret
      exact ⟨rfl, hb⟩
    · clear hg
      go_enter Try.func5, Try.ntmps5
      go_wp2_with fail
      refine (renum_lives _).mono ?_
      rintro e w1 ⟨rfl, hb⟩
      go_wp2_with fail
      go_ret
      exact ⟨rfl, hb⟩
    · have t3 : ((a' : Int) != (a : Int)) = true := by simpa using h3
      clear hg h3
      go_enter Try.func5, Try.ntmps5
      go_wp2_with fail
      refine (renum_lives _).mono ?_
      rintro e w1 ⟨rfl, hb⟩
      go_wp2_with fail
      go_ret
      exact ⟨rfl, hb⟩
end Go.Proofs.Ytpladpmkpchndaa
