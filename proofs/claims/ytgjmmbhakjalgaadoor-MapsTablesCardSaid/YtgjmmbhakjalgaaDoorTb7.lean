/-
  Tables of sets: a table's bytes, by the document (inlayref14.Put).
-/
import Derived.Test.YtgjmmbhakjalgaaDoorTb6
import Derived.Deep.Cut
namespace Go.Proofs.YtgjmmbhakjalgaaDoor
open Go.RowKit
set_option linter.unusedSimpArgs false
set_option linter.unusedVariables false
theorem eqW_sym {s t : W4} (h : eqW s t = false) : eqW t s = false := by
  by_cases e : eqW t s = true
  · rw [(eqW_iff t s).1 e] at h
    rw [(eqW_iff s s).2 rfl] at h
    cases h
  · simpa using e
/-- Where a run begins. -/
def Bd (xs : List W4) (i : Nat) : Prop := ∀ p x, (cntM (xs.take i)).getLast? = some p → xs[i]? = some x → eqW p.1 x = false
theorem Bd.zero (xs : List W4) : Bd xs 0 := fun p x h _ => by simp [cntM] at h
theorem cnt_run {xs : List W4} {i : Nat} {x : W4} (hb : Bd xs i) : ∀ d, (∀ j, i ≤ j → j < i + (d + 1) → xs[j]? = some x) → cntM (xs.take (i + (d + 1))) = cntM (xs.take i) ++ [(x, d + 1)] := by
  intro d
  induction d with
  | zero =>
    intro h
    have hx := h i (Nat.le_refl _) (by omega)
    rw [show i + (0 + 1) = i + 1 from rfl, ← take_snoc' xs i x hx, cntM_snoc]
    unfold cntStep
    split
    · rename_i e
      rw [List.getLast?_eq_none_iff] at e
      rw [e]
      rfl
    · rename_i p e
      rw [hb p x e hx]
      rfl
  | succ d ih =>
    intro h
    have hx := h (i + (d + 1)) (by omega) (by omega)
    rw [show i + (d + 1 + 1) = i + (d + 1) + 1 from rfl, ← take_snoc' xs _ x hx, cntM_snoc, ih fun j h1 h2 => h j h1 (by omega), cntStep_same _ _ _ _ ((eqW_iff x x).2 rfl)]
theorem bd_next {xs : List W4} {i k : Nat} {x : W4} (hb : Bd xs i) (hik : i < k) (hr : ∀ j, i ≤ j → j < k → xs[j]? = some x) (he : ∀ y, xs[k]? = some y → eqW y x = false) : Bd xs k ∧ cntM (xs.take k) = cntM (xs.take i) ++ [(x, k - i)] := by
  obtain ⟨d, rfl⟩ : ∃ d, k = i + (d + 1) := ⟨k - i - 1, by omega⟩
  have e := cnt_run hb d hr
  rw [show i + (d + 1) - i = d + 1 by omega]
  refine ⟨fun p y hp hy => ?_, e⟩
  rw [e] at hp
  simp at hp
  rw [← hp]
  exact eqW_sym (he y hy)
structure PR (w : World) (A : Option Addr) (k c : Nat) (l : List Nat) (W : World) : Prop where
  own : W.ownsRow w.heap.size 5 1 (.slice A k c) k (rowB l)
  bw : Below w.heap.size w W
theorem PR.on {w : World} {A : Option Addr} {k c : Nat} {l : List Nat} {W W' : World} (h : PR w A k c l W) (hb : Below W.heap.size W W') : PR w A k c l W' := ⟨own_keep h.own hb, h.bw.trans (hb.mono h.bw.size)⟩
theorem PR.drewN {w : World} {A : Option Addr} {k c : Nat} {l : List Nat} {W : World} (h : PR w A k c l W) (m : Nat) : PR w A k c l (W.drewN m) := h.on (((Kp.refl (fun _ => False) W).drewN m).below (Nat.le_refl _) fun _ h => h.elim)
theorem PR.snoc {w : World} {A : Option Addr} {k c : Nat} {l : List Nat} {W : World} (h : PR w A k c l W) {m : Nat} {r : List Nat} {v' : Value} {w3 : World} (hown : w3.ownsRow w.heap.size 5 1 v' (k + m) (rowB l ++ rowB r)) (hg : W.grownBy w3 (Value.slice A k c).ownBlock) : ∃ A' c', v' = .slice A' (k + m) c' ∧ PR w A' (k + m) c' (l ++ r) w3 := by
  obtain ⟨A', c', rfl, _⟩ := own_form hown
  exact ⟨A', c', rfl, by rw [rowB_app]; exact hown, Below.grown h.bw hg h.bw.size (fun j hj => (h.own.lt _ hj).1)⟩
theorem ref_Put (n : Nat) (w : World) (hn : n < 18446744073709551616) : Calls Tryd.prog 22 #[.int .u64 (n : Int)] w (IsBytes (putM n) w) := ref_Put_any 9 n w (Nat.le_refl _) hn (by rw [lim9]; exact hn)

set_option maxRecDepth 100000 in
set_option maxHeartbeats 8000000 in
theorem rPut_any (A : Option Addr) (n c : Nat) (xs : List W4) (w : World) (h : SlW w w.heap.size A n c xs) (hok : ∀ x ∈ xs, x.Ok) (hn : n ≤ 100) :
    Calls Tryd.prog 12 #[.slice A n c] w fun e w' => ∃ A' k' c', e = .returned (.slice A' k' c') ∧ k' = (putsM (cntM xs)).length ∧ k' ≤ 6000 ∧ w'.ownsRow w.heap.size 5 1 (.slice A' k' c') k' (rowB (putsM (cntM xs))) ∧ Below w.heap.size w w' := by
  obtain ⟨i0, hi, hz0, hz1, hz2⟩ := info_parts info_byte
  have H := Lib.hid h
  have HOK := Lib.hid hok
  have HLN : Hid (xs.length = n) := Lib.hid h.1
  have hguard := eq_guard
  clear h hok
  go_enter Tryd.func12, Tryd.ntmps12
  go_wp2_with fail
  go_loopw [3, 4] (fun b i wr => ∃ (q kb cb : Nat) (Ab : Option Addr), b = .slice Ab kb cb ∧ i = .int .i64 q ∧ q ≤ n ∧ kb ≤ 50 * q ∧ Hid (Bd xs q) ∧ Hid (PR w Ab kb cb (putsM (cntM (xs.take q))) wr)) (fun _ i _ => n - (intOf i).toNat)
  case atStart => exact ⟨0, 0, 0, none, rfl, rfl, Nat.zero_le _, Nat.le_refl _, Lib.hid (Bd.zero xs), Lib.hid ⟨⟨rfl, .inl ⟨rfl, rfl⟩⟩, Below.refl _ _⟩⟩
  case round =>
    obtain ⟨q, kb, cb, Ab, rfl, rfl, hq, hkb, HBD, HP⟩ := hrel
    by_cases hlt : q < n
    · obtain ⟨r, off, x, rfl, hr, hx, hc⟩ := H.out.get hlt
      have hxo := HOK.out x (List.mem_of_getElem? hx)
      have hq0 : (0 : Int) ≤ (q : Int) := by omega
      have hqn : (q : Int) < (n : Int) := by omega
      have HC := Lib.hid hc
      have HXQ := Lib.hid hx
      obtain ⟨b0, b1, b2, b3⟩ : x.a0 < 18446744073709551616 ∧ x.a1 < 18446744073709551616 ∧ x.a2 < 18446744073709551616 ∧ x.a3 < 18446744073709551616 := ⟨hxo.h0, hxo.h1, hxo.h2, hxo.h3⟩
      clear hc hxo hx
      generalize hac : putsM (cntM (xs.take q)) = acc at *
      have HAC := Lib.hid hac
      clear hac
      go_wp2_with fail
      go_loopw [5] (fun i W => ∃ k : Nat, i = .int .i64 k ∧ q ≤ k ∧ k ≤ n ∧ Hid (∀ j, q ≤ j → j < k → xs[j]? = some x) ∧ Hid (PR w Ab kb cb acc W)) (fun i _ => n - (intOf i).toNat)
      case atStart => exact ⟨q, rfl, Nat.le_refl _, hq, Lib.hid (fun j h1 h2 => by omega), HP⟩
      case round =>
        obtain ⟨k, rfl, hqk, hk, HR, HP⟩ := hrel
        by_cases hkn : k < n
        · obtain ⟨r', off', y, e', hr', hy, hc'⟩ := H.out.get hkn
          injection e' with e'
          injection e' with e1 e2
          subst e1 e2
          obtain ⟨q0, q1, q2, q3⟩ := HC.out _ HP.out.bw
          obtain ⟨p0, p1, p2, p3⟩ := hc' _ HP.out.bw
          have heq : ∀ W, (Op.equalIn 10000 27 (aggW y) (aggW x)).run Tryd.prog W = .ok (eqW y x) W := fun W => eq_arr 9998 y.a0 y.a1 y.a2 y.a3 x.a0 x.a1 x.a2 x.a3 W
          have hk0 : (0 : Int) ≤ (k : Int) := by omega
          have hkn1 : (k : Int) < (n : Int) := by omega
          have hkn2 : decide ((k : Int) < (n : Int)) = true := by simpa using hkn1
          have hkn3 : decide (k < n) = true := by simpa using hkn
          have HY := Lib.hid hy
          clear hc' hy hr'
          by_cases he : eqW y x = true
          · rw [he] at heq
            have HYX : Hid (y = x) := Lib.hid ((eqW_iff y x).1 he)
            clear he
            go_wp2_with fail
            go_quiet (fail)
            clear heq q0 q1 q2 q3 p0 p1 p2 p3
            go_wp2_with fail
            go_roundw
            case rel => exact ⟨k + 1, by go_num, by omega, by omega, Lib.hid (fun j h1 h2 => by
                by_cases hj : j = k
                · rw [hj, HY.out, HYX.out]
                · exact HR.out j h1 (by omega)), Lib.hid (HP.out.drewN _)⟩
            case measure => simp [intOf]; omega
          · have he' : eqW y x = false := by simpa using he
            rw [he'] at heq
            have hqk' : q < k := by
              by_cases e : q = k
              · subst e
                have h1 := HY.out
                rw [HXQ.out] at h1
                injection h1 with h1
                exact absurd ((eqW_iff y x).2 h1.symm) he
              · omega
            have HN := Lib.hid (bd_next HBD.out hqk' HR.out fun z hz => by
              have h1 := HY.out
              rw [hz] at h1
              injection h1 with h1
              rw [h1]
              exact he')
            clear he he'
            go_wp2_with fail
            go_quiet (fail)
            clear heq q0 q1 q2 q3 p0 p1 p2 p3
            go_wp2_with fail
            obtain ⟨d, hd0⟩ : ∃ d : Nat, d = k - q := ⟨_, rfl⟩
            have hd : (k : Int) - (q : Int) = (d : Int) := by omega
            rw [hd]
            rw [← hd0] at HN
            have hdl : d ≤ 100 := by omega
            have l4 := putM_len d
            have l0 := putM_len x.a0
            have l1 := putM_len x.a1
            have l2 := putM_len x.a2
            have l3 := putM_len x.a3
            clear hd
            refine (ref_Put d _ (by omega)).mono ?_
            rintro e w3 ⟨g, cap, rfl, hown3, hb3⟩
            have HP3 := Lib.hid ((HP.out.drewN _).on hb3)
            have hs := Lib.hid (own_src hown3)
            clear hown3 hb3
            obtain ⟨ln, hln⟩ : ∃ ln, (putM d).length = ln := ⟨_, rfl⟩
            rw [hln] at hs l4 ⊢
            clear hln
            go_wp2_with (first
              | (at_builtin; go_must (refine wpList_append_src _ rfl _ _ 31 rfl w.heap.size 5 i0 (.int .u8 0) 1 1 Tryd.underlying31 hi hz0 hz1 hz2 rfl (by decide) _ _ _ rfl HP3.out.own (some ⟨g, 0, none⟩) ln cap (rowB (putM d)) rfl hs.out (row_one _) (by unfold maxLen; omega) (by omega) HP3.out.bw.size ?_)
                 intro v' w4 hown' hgrow3 hat3
                 obtain ⟨A', c', rfl, X1⟩ := HP3.out.snoc hown' hgrow3
                 have XR := Lib.hid X1
                 clear X1 hown' hgrow3 hat3))
            have HW := XR
            clear XR HP3 hs
            obtain ⟨k0, hke⟩ : ∃ k9, kb + ln = k9 := ⟨_, rfl⟩
            rw [hke] at HW ⊢
            have hkk0 : k0 ≤ kb + 10 := by omega
            clear hke
            obtain ⟨z0, z1, z2, z3⟩ := HC.out _ HW.out.bw
            refine wp_loop_rounds 5 ?_
            rw [rounds_succ]
            go_wp2_with fail
            clear z0 z1 z2 z3
            refine (ref_Put x.a0 _ b0).mono ?_
            rintro e w3 ⟨g, cap, rfl, hown3, hb3⟩
            have HP3 := Lib.hid (HW.out.on hb3)
            have hs := Lib.hid (own_src hown3)
            clear hown3 hb3 HW
            obtain ⟨ln, hln⟩ : ∃ ln, (putM x.a0).length = ln := ⟨_, rfl⟩
            rw [hln] at hs l0 ⊢
            clear hln
            go_wp2_with (first
              | (at_builtin; go_must (refine wpList_append_src _ rfl _ _ 31 rfl w.heap.size 5 i0 (.int .u8 0) 1 1 Tryd.underlying31 hi hz0 hz1 hz2 rfl (by decide) _ _ _ rfl HP3.out.own (some ⟨g, 0, none⟩) ln cap (rowB (putM x.a0)) rfl hs.out (row_one _) (by unfold maxLen; omega) (by omega) HP3.out.bw.size ?_)
                 intro v' w5 hown' hgrow3 hat3
                 obtain ⟨A', c', rfl, X1⟩ := HP3.out.snoc hown' hgrow3
                 have XR := Lib.hid X1
                 clear X1 hown' hgrow3 hat3))
            have HW := XR
            clear XR HP3 hs
            obtain ⟨k1, hke⟩ : ∃ k9, k0 + ln = k9 := ⟨_, rfl⟩
            rw [hke] at HW ⊢
            have hkk1 : k1 ≤ kb + 20 := by omega
            clear hke
            obtain ⟨z0, z1, z2, z3⟩ := HC.out _ HW.out.bw
            rw [rounds_succ]
            go_wp2_with fail
            clear z0 z1 z2 z3
            refine (ref_Put x.a1 _ b1).mono ?_
            rintro e w3 ⟨g, cap, rfl, hown3, hb3⟩
            have HP3 := Lib.hid (HW.out.on hb3)
            have hs := Lib.hid (own_src hown3)
            clear hown3 hb3 HW
            obtain ⟨ln, hln⟩ : ∃ ln, (putM x.a1).length = ln := ⟨_, rfl⟩
            rw [hln] at hs l1 ⊢
            clear hln
            go_wp2_with (first
              | (at_builtin; go_must (refine wpList_append_src _ rfl _ _ 31 rfl w.heap.size 5 i0 (.int .u8 0) 1 1 Tryd.underlying31 hi hz0 hz1 hz2 rfl (by decide) _ _ _ rfl HP3.out.own (some ⟨g, 0, none⟩) ln cap (rowB (putM x.a1)) rfl hs.out (row_one _) (by unfold maxLen; omega) (by omega) HP3.out.bw.size ?_)
                 intro v' w6 hown' hgrow3 hat3
                 obtain ⟨A', c', rfl, X1⟩ := HP3.out.snoc hown' hgrow3
                 have XR := Lib.hid X1
                 clear X1 hown' hgrow3 hat3))
            have HW := XR
            clear XR HP3 hs
            obtain ⟨k2, hke⟩ : ∃ k9, k1 + ln = k9 := ⟨_, rfl⟩
            rw [hke] at HW ⊢
            have hkk2 : k2 ≤ kb + 30 := by omega
            clear hke
            obtain ⟨z0, z1, z2, z3⟩ := HC.out _ HW.out.bw
            rw [rounds_succ]
            go_wp2_with fail
            clear z0 z1 z2 z3
            refine (ref_Put x.a2 _ b2).mono ?_
            rintro e w3 ⟨g, cap, rfl, hown3, hb3⟩
            have HP3 := Lib.hid (HW.out.on hb3)
            have hs := Lib.hid (own_src hown3)
            clear hown3 hb3 HW
            obtain ⟨ln, hln⟩ : ∃ ln, (putM x.a2).length = ln := ⟨_, rfl⟩
            rw [hln] at hs l2 ⊢
            clear hln
            go_wp2_with (first
              | (at_builtin; go_must (refine wpList_append_src _ rfl _ _ 31 rfl w.heap.size 5 i0 (.int .u8 0) 1 1 Tryd.underlying31 hi hz0 hz1 hz2 rfl (by decide) _ _ _ rfl HP3.out.own (some ⟨g, 0, none⟩) ln cap (rowB (putM x.a2)) rfl hs.out (row_one _) (by unfold maxLen; omega) (by omega) HP3.out.bw.size ?_)
                 intro v' w7 hown' hgrow3 hat3
                 obtain ⟨A', c', rfl, X1⟩ := HP3.out.snoc hown' hgrow3
                 have XR := Lib.hid X1
                 clear X1 hown' hgrow3 hat3))
            have HW := XR
            clear XR HP3 hs
            obtain ⟨k3, hke⟩ : ∃ k9, k2 + ln = k9 := ⟨_, rfl⟩
            rw [hke] at HW ⊢
            have hkk3 : k3 ≤ kb + 40 := by omega
            clear hke
            obtain ⟨z0, z1, z2, z3⟩ := HC.out _ HW.out.bw
            rw [rounds_succ]
            go_wp2_with fail
            clear z0 z1 z2 z3
            refine (ref_Put x.a3 _ b3).mono ?_
            rintro e w3 ⟨g, cap, rfl, hown3, hb3⟩
            have HP3 := Lib.hid (HW.out.on hb3)
            have hs := Lib.hid (own_src hown3)
            clear hown3 hb3 HW
            obtain ⟨ln, hln⟩ : ∃ ln, (putM x.a3).length = ln := ⟨_, rfl⟩
            rw [hln] at hs l3 ⊢
            clear hln
            go_wp2_with (first
              | (at_builtin; go_must (refine wpList_append_src _ rfl _ _ 31 rfl w.heap.size 5 i0 (.int .u8 0) 1 1 Tryd.underlying31 hi hz0 hz1 hz2 rfl (by decide) _ _ _ rfl HP3.out.own (some ⟨g, 0, none⟩) ln cap (rowB (putM x.a3)) rfl hs.out (row_one _) (by unfold maxLen; omega) (by omega) HP3.out.bw.size ?_)
                 intro v' w8 hown' hgrow3 hat3
                 obtain ⟨A', c', rfl, X1⟩ := HP3.out.snoc hown' hgrow3
                 have XR := Lib.hid X1
                 clear X1 hown' hgrow3 hat3))
            have HW := XR
            clear XR HP3 hs
            obtain ⟨k4, hke⟩ : ∃ k9, k3 + ln = k9 := ⟨_, rfl⟩
            rw [hke] at HW ⊢
            have hkk4 : k4 ≤ kb + 50 := by omega
            clear hke
            have HF : Hid (PR w A' k4 c' (putsM (cntM (xs.take k))) w8) := Lib.hid (by
              rw [HN.out.2]
              have h1 := HW.out
              rw [← HAC.out] at h1
              unfold putsM at *
              rw [List.flatMap_append]
              simpa [runB] using h1)
            clear HW
            rw [rounds_succ]
            go_wp2_with fail
            go_roundw
            case rel => exact ⟨k, k4, c', A', rfl, by go_num, by omega, by omega, Lib.hid HN.out.1, HF⟩
            case measure => simp [intOf]; omega

        · have hkn' : k = n := by omega
          have hqk' : q < k := by omega
          have HN := Lib.hid (bd_next HBD.out hqk' HR.out fun z hz => by
            have h1 := HLN.out
            rw [List.getElem?_eq_none (by omega)] at hz
            cases hz)
          have hk0 : (0 : Int) ≤ (k : Int) := by omega
          have hkn1 : ¬ (k : Int) < (n : Int) := by omega
          have hkn2 : decide ((k : Int) < (n : Int)) = false := by simp; omega
          have hkn3 : decide (k < n) = false := by simp; omega
          have hkn4 : (k : Int) ≤ (n : Int) := by omega
          have HKN := Lib.hid hkn'
          clear hkn'
          go_wp2_with fail
          go_quiet (fail)
          go_wp2_with fail
          obtain ⟨d, hd0⟩ : ∃ d : Nat, d = k - q := ⟨_, rfl⟩
          have hd : (k : Int) - (q : Int) = (d : Int) := by omega
          rw [hd]
          rw [← hd0] at HN
          have hdl : d ≤ 100 := by omega
          have l4 := putM_len d
          have l0 := putM_len x.a0
          have l1 := putM_len x.a1
          have l2 := putM_len x.a2
          have l3 := putM_len x.a3
          clear hd
          refine (ref_Put d _ (by omega)).mono ?_
          rintro e w3 ⟨g, cap, rfl, hown3, hb3⟩
          have HP3 := Lib.hid ((HP.out.drewN _).on hb3)
          have hs := Lib.hid (own_src hown3)
          clear hown3 hb3
          obtain ⟨ln, hln⟩ : ∃ ln, (putM d).length = ln := ⟨_, rfl⟩
          rw [hln] at hs l4 ⊢
          clear hln
          go_wp2_with (first
            | (at_builtin; go_must (refine wpList_append_src _ rfl _ _ 31 rfl w.heap.size 5 i0 (.int .u8 0) 1 1 Tryd.underlying31 hi hz0 hz1 hz2 rfl (by decide) _ _ _ rfl HP3.out.own (some ⟨g, 0, none⟩) ln cap (rowB (putM d)) rfl hs.out (row_one _) (by unfold maxLen; omega) (by omega) HP3.out.bw.size ?_)
               intro v' w4 hown' hgrow3 hat3
               obtain ⟨A', c', rfl, X1⟩ := HP3.out.snoc hown' hgrow3
               have XR := Lib.hid X1
               clear X1 hown' hgrow3 hat3))
          have HW := XR
          clear XR HP3 hs
          obtain ⟨k0, hke⟩ : ∃ k9, kb + ln = k9 := ⟨_, rfl⟩
          rw [hke] at HW ⊢
          have hkk0 : k0 ≤ kb + 10 := by omega
          clear hke
          obtain ⟨z0, z1, z2, z3⟩ := HC.out _ HW.out.bw
          refine wp_loop_rounds 5 ?_
          rw [rounds_succ]
          go_wp2_with fail
          clear z0 z1 z2 z3
          refine (ref_Put x.a0 _ b0).mono ?_
          rintro e w3 ⟨g, cap, rfl, hown3, hb3⟩
          have HP3 := Lib.hid (HW.out.on hb3)
          have hs := Lib.hid (own_src hown3)
          clear hown3 hb3 HW
          obtain ⟨ln, hln⟩ : ∃ ln, (putM x.a0).length = ln := ⟨_, rfl⟩
          rw [hln] at hs l0 ⊢
          clear hln
          go_wp2_with (first
            | (at_builtin; go_must (refine wpList_append_src _ rfl _ _ 31 rfl w.heap.size 5 i0 (.int .u8 0) 1 1 Tryd.underlying31 hi hz0 hz1 hz2 rfl (by decide) _ _ _ rfl HP3.out.own (some ⟨g, 0, none⟩) ln cap (rowB (putM x.a0)) rfl hs.out (row_one _) (by unfold maxLen; omega) (by omega) HP3.out.bw.size ?_)
               intro v' w5 hown' hgrow3 hat3
               obtain ⟨A', c', rfl, X1⟩ := HP3.out.snoc hown' hgrow3
               have XR := Lib.hid X1
               clear X1 hown' hgrow3 hat3))
          have HW := XR
          clear XR HP3 hs
          obtain ⟨k1, hke⟩ : ∃ k9, k0 + ln = k9 := ⟨_, rfl⟩
          rw [hke] at HW ⊢
          have hkk1 : k1 ≤ kb + 20 := by omega
          clear hke
          obtain ⟨z0, z1, z2, z3⟩ := HC.out _ HW.out.bw
          rw [rounds_succ]
          go_wp2_with fail
          clear z0 z1 z2 z3
          refine (ref_Put x.a1 _ b1).mono ?_
          rintro e w3 ⟨g, cap, rfl, hown3, hb3⟩
          have HP3 := Lib.hid (HW.out.on hb3)
          have hs := Lib.hid (own_src hown3)
          clear hown3 hb3 HW
          obtain ⟨ln, hln⟩ : ∃ ln, (putM x.a1).length = ln := ⟨_, rfl⟩
          rw [hln] at hs l1 ⊢
          clear hln
          go_wp2_with (first
            | (at_builtin; go_must (refine wpList_append_src _ rfl _ _ 31 rfl w.heap.size 5 i0 (.int .u8 0) 1 1 Tryd.underlying31 hi hz0 hz1 hz2 rfl (by decide) _ _ _ rfl HP3.out.own (some ⟨g, 0, none⟩) ln cap (rowB (putM x.a1)) rfl hs.out (row_one _) (by unfold maxLen; omega) (by omega) HP3.out.bw.size ?_)
               intro v' w6 hown' hgrow3 hat3
               obtain ⟨A', c', rfl, X1⟩ := HP3.out.snoc hown' hgrow3
               have XR := Lib.hid X1
               clear X1 hown' hgrow3 hat3))
          have HW := XR
          clear XR HP3 hs
          obtain ⟨k2, hke⟩ : ∃ k9, k1 + ln = k9 := ⟨_, rfl⟩
          rw [hke] at HW ⊢
          have hkk2 : k2 ≤ kb + 30 := by omega
          clear hke
          obtain ⟨z0, z1, z2, z3⟩ := HC.out _ HW.out.bw
          rw [rounds_succ]
          go_wp2_with fail
          clear z0 z1 z2 z3
          refine (ref_Put x.a2 _ b2).mono ?_
          rintro e w3 ⟨g, cap, rfl, hown3, hb3⟩
          have HP3 := Lib.hid (HW.out.on hb3)
          have hs := Lib.hid (own_src hown3)
          clear hown3 hb3 HW
          obtain ⟨ln, hln⟩ : ∃ ln, (putM x.a2).length = ln := ⟨_, rfl⟩
          rw [hln] at hs l2 ⊢
          clear hln
          go_wp2_with (first
            | (at_builtin; go_must (refine wpList_append_src _ rfl _ _ 31 rfl w.heap.size 5 i0 (.int .u8 0) 1 1 Tryd.underlying31 hi hz0 hz1 hz2 rfl (by decide) _ _ _ rfl HP3.out.own (some ⟨g, 0, none⟩) ln cap (rowB (putM x.a2)) rfl hs.out (row_one _) (by unfold maxLen; omega) (by omega) HP3.out.bw.size ?_)
               intro v' w7 hown' hgrow3 hat3
               obtain ⟨A', c', rfl, X1⟩ := HP3.out.snoc hown' hgrow3
               have XR := Lib.hid X1
               clear X1 hown' hgrow3 hat3))
          have HW := XR
          clear XR HP3 hs
          obtain ⟨k3, hke⟩ : ∃ k9, k2 + ln = k9 := ⟨_, rfl⟩
          rw [hke] at HW ⊢
          have hkk3 : k3 ≤ kb + 40 := by omega
          clear hke
          obtain ⟨z0, z1, z2, z3⟩ := HC.out _ HW.out.bw
          rw [rounds_succ]
          go_wp2_with fail
          clear z0 z1 z2 z3
          refine (ref_Put x.a3 _ b3).mono ?_
          rintro e w3 ⟨g, cap, rfl, hown3, hb3⟩
          have HP3 := Lib.hid (HW.out.on hb3)
          have hs := Lib.hid (own_src hown3)
          clear hown3 hb3 HW
          obtain ⟨ln, hln⟩ : ∃ ln, (putM x.a3).length = ln := ⟨_, rfl⟩
          rw [hln] at hs l3 ⊢
          clear hln
          go_wp2_with (first
            | (at_builtin; go_must (refine wpList_append_src _ rfl _ _ 31 rfl w.heap.size 5 i0 (.int .u8 0) 1 1 Tryd.underlying31 hi hz0 hz1 hz2 rfl (by decide) _ _ _ rfl HP3.out.own (some ⟨g, 0, none⟩) ln cap (rowB (putM x.a3)) rfl hs.out (row_one _) (by unfold maxLen; omega) (by omega) HP3.out.bw.size ?_)
               intro v' w8 hown' hgrow3 hat3
               obtain ⟨A', c', rfl, X1⟩ := HP3.out.snoc hown' hgrow3
               have XR := Lib.hid X1
               clear X1 hown' hgrow3 hat3))
          have HW := XR
          clear XR HP3 hs
          obtain ⟨k4, hke⟩ : ∃ k9, k3 + ln = k9 := ⟨_, rfl⟩
          rw [hke] at HW ⊢
          have hkk4 : k4 ≤ kb + 50 := by omega
          clear hke
          have HF : Hid (PR w A' k4 c' (putsM (cntM (xs.take k))) w8) := Lib.hid (by
            rw [HN.out.2]
            have h1 := HW.out
            rw [← HAC.out] at h1
            unfold putsM at *
            rw [List.flatMap_append]
            simpa [runB] using h1)
          clear HW
          rw [rounds_succ]
          go_wp2_with fail
          go_roundw
          case rel => exact ⟨k, k4, c', A', rfl, by go_num, by omega, by omega, Lib.hid HN.out.1, HF⟩
          case measure => simp [intOf]; omega
    · obtain rfl : q = n := by omega
      go_wp2_with fail
      go_ret
      have hP := HP.out
      rw [List.take_of_length_le (by have := HLN.out; omega)] at hP
      refine ⟨Ab, kb, cb, rfl, ?_, by omega, hP.own, hP.bw⟩
      have h1 := hP.own.1
      simp [rowB] at h1
      omega
end Go.Proofs.YtgjmmbhakjalgaaDoor
