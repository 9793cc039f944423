/-
  What any operation makes of any values: the walk.
-/
import Derived.Test.YtjalphlhooojoaaCd10
namespace Go.Proofs.Ytjalphlhooojoaa
open Go.RowKit
set_option linter.unusedSimpArgs false
set_option linter.unusedVariables false
attribute [local go_sem] run_store_cplx
theorem conv_fours : Conv Try.prog 23 (RSl 4 32 RFour) := conv_sl Try.underlying23 (by kernel_rfl) (by kernel_rfl) (by decide) conv_Four
def toDV (d : DFour) : DV := ⟨d.k, d.n, nr d.re, nr d.im⟩
theorem four_at {w : World} {B : Nat} {A : Option Addr} {n c : Nat} {xs : List DFour} (h : SlR 4 32 RFour w B A n c xs) {k : Nat} (hk : k < n) : ∃ b off x, A = some ⟨b, off, none⟩ ∧ b < B ∧ xs[k]? = some x ∧ w.cell? ⟨b, off + k * 4, none⟩ = some (.int .i64 x.k) ∧ w.cell? ⟨b, off + k * 4 + 1, none⟩ = some (.int .i64 x.n) ∧ w.cell? ⟨b, off + k * 4 + 2, none⟩ = some (.int .i64 x.re) ∧ w.cell? ⟨b, off + k * 4 + 3, none⟩ = some (.int .i64 x.im) := by
  obtain ⟨b, off, x, cs, hA, hb, hx, _, hc, hr⟩ := h.at_ hk
  obtain ⟨rfl, _⟩ := hr
  exact ⟨b, off, x, hA, hb, hx, by simpa using hc 0 _ rfl, by simpa [Nat.add_assoc] using hc 1 _ rfl, by simpa [Nat.add_assoc] using hc 2 _ rfl, by simpa [Nat.add_assoc] using hc 3 _ rfl⟩
theorem four_in {w : World} {B : Nat} {A : Option Addr} {n c : Nat} {xs : List DFour} (h : SlR 4 32 RFour w B A n c xs) : ∀ v ∈ xs.map toDV, In64 v.n := by
  intro v hv
  obtain ⟨x, hx, rfl⟩ := List.mem_map.1 hv
  obtain ⟨i, hi, rfl⟩ := List.getElem_of_mem hx
  obtain ⟨h1, h2, h3, h4, h5⟩ := h
  obtain ⟨b, off, hA, hb, hel⟩ := h5 (by omega)
  obtain ⟨cs, _, _, hr⟩ := hel i _ (List.getElem?_eq_getElem hi)
  exact in64_of_wf hr.2.2.1
theorem lst_of {w wr : World} {A : Option Addr} {n c : Nat} {ys : List DV} (h : wr.ownsRow w.heap.size 29 3 (.slice A n c) n (ys.flatMap cellsV)) (hn : n ≤ 1000) : Lst wr wr.heap.size A n c ys :=
  ⟨SlR.of_ownN (sz := 3) (bytes := 32) (f := cellsV) (fun _ => rfl) (by decide) h (by unfold reachBytes; omega), Nat.le_refl _, fun ad ha => by
    obtain ⟨A', c', e, h0, h1⟩ := own_form h
    simp only [Value.slice.injEq, true_and] at e
    obtain ⟨rfl, rfl⟩ := e
    obtain ⟨g, hg, _⟩ := h1 ad ha
    exact ⟨g, hg⟩⟩
theorem Lst.on {w w' : World} {B : Nat} {A : Option Addr} {n c : Nat} {xs : List DV} (h : Lst w B A n c xs) (hb : Below B w w') : Lst w' B A n c xs := ⟨h.sl.on hb, Nat.le_trans h.hB hb.size, h.off⟩
def flDV (xs : List DFour) (k : Nat) : List Value := ((xs.map toDV).take k).flatMap cellsV
set_option maxRecDepth 100000 in
set_option maxHeartbeats 4000000 in
theorem cellDoes_walk (op : Int) (A : Option Addr) (n c : Nat) (xs : List DFour) (w : World) (hop : (Lit.int .i64 op).wf = true) (h : SlR 4 32 RFour w w.heap.size A n c xs) :
    Calls Try.prog 3 #[.int .i64 op, .slice A n c] w fun e w' => e = .returned (.bool true) ∧ Below w.heap.size w w' := by
  have hm : n ≤ 9223372036854775807 := by have := h.2.1; have := h.2.2.1; unfold maxLen at this; omega
  by_cases hn : n ≤ 5
  · have H := Lib.hid h
    have HL : Hid (xs.length = n) := h.1
    have HI := Lib.hid (four_in h)
    have hgt : ¬ 5 < n := by omega
    obtain ⟨i0, hi, hz0, hz1, hz2⟩ := info_parts info_val
    clear h hop
    go_enter Try.func3, Try.ntmps3
    go_wp2
    go_loopw [5, 6] (fun o i wr => ∃ (k : Nat) (A1 : Option Addr) (cc : Nat), o = .slice A1 k cc ∧ i = .int .i64 k ∧ k ≤ n ∧ Hid (wr.ownsRow w.heap.size 29 3 (.slice A1 k cc) k (flDV xs k)) ∧ Hid (Below w.heap.size w wr)) (fun _ i _ => n - (intOf i).toNat)
    case atStart => exact ⟨0, none, 0, rfl, rfl, Nat.zero_le _, World.ownsRow_nil _ _ _ _, Below.refl _ _⟩
    case round =>
      obtain ⟨k, A1, cc, rfl, rfl, hk, HO, HW⟩ := hrel
      by_cases hlt : k < n
      · obtain ⟨b, off, t, rfl, hb, hx, p0, p1, p2, p3⟩ := four_at H.out hlt
        have q0 := (HW.out.cell (p := ⟨b, off + k * 4, none⟩) hb).trans p0
        have q1 := (HW.out.cell (p := ⟨b, off + k * 4 + 1, none⟩) hb).trans p1
        have q2 := (HW.out.cell (p := ⟨b, off + k * 4 + 2, none⟩) hb).trans p2
        have q3 := (HW.out.cell (p := ⟨b, off + k * 4 + 3, none⟩) hb).trans p3
        obtain ⟨tk, tn, tr, ti⟩ := t
        have HF : Hid (flDV xs k ++ [.int .i64 tk, .int .i64 tn, .complex .f64 (nr tr) (nr ti)] = flDV xs (k + 1)) := Lib.hid (flatMap_snoc cellsV (xs.map toDV) k (toDV ⟨tk, tn, tr, ti⟩) (by rw [List.getElem?_map, hx]; rfl))
        have cV : Hid (∀ w : World, Calls Try.prog 6 #[.agg #[.int .i64 tk, .int .i64 tn, .int .i64 tr, .int .i64 ti]] w fun e w' => e = .returned (vV tk tn (nr tr) (nr ti)) ∧ Below w.heap.size w w') := Lib.hid fun w => value_any tk tn tr ti w
        obtain ⟨vx, hvx⟩ : ∃ x, nr tr = x := ⟨_, rfl⟩
        obtain ⟨vy, hvy⟩ : ∃ x, nr ti = x := ⟨_, rfl⟩
        rw [hvx, hvy] at HF cV
        clear p0 p1 p2 p3 hx hb hvx hvy
        go_wp2_with fail
        refine (cV.out _).mono ?_
        rintro e w1 ⟨rfl, hb1⟩
        have HW1 : Hid (Below w.heap.size w w1) := Lib.hid (HW.out.trans (hb1.mono HW.out.size))
        have HO1 := Lib.hid (own_on HO.out hb1)
        clear hb1
        have hsz : w.heap.size ≤ (w1.alloc (.cells #[.int .i64 tk, .int .i64 tn, .complex .f64 vx vy] 29)).heap.size := by have := HW1.out.size; simp; omega
        have hsrc := Lib.hid (src_v w1 tk tn vx vy)
        have hone := Lib.hid (one_v tk tn vx vy)
        go_wp2_with (first
          | (at_builtin; go_must (refine wpList_append_src _ rfl _ _ 25 rfl w.heap.size 29 i0 (.agg #[.int .i64 0, .int .i64 0, .complex .f64 0 0]) 3 32 Try.underlying25 hi hz0 hz1 hz2 rfl (by decide) _ _ _ rfl (HO1.out.alloc _) (some ⟨w1.heap.size, 0, none⟩) 1 1 [.int .i64 tk, .int .i64 tn, .complex .f64 vx vy] rfl hsrc.out hone.out (by unfold maxLen; omega) (by omega) hsz ?_)
             intro v' w3 hown' hgrow3 hat3
             rw [HF.out] at hown'
             obtain ⟨A', c', rfl, o3, b3⟩ := app1 HW1.out hown' hgrow3 (fun j hj => (HO1.out.lt j hj).1)
             have O3 := Lib.hid o3
             have B3 := Lib.hid b3
             clear hown' hgrow3 hat3 o3 b3))
        go_roundw
        case rel => exact ⟨k + 1, A', c', rfl, by go_num, by omega, O3, B3⟩
        case measure => simp [intOf]; omega
      · have hkn : k = n := by omega
        subst hkn
        have HLs : Hid (Lst wr wr.heap.size A1 k cc (xs.map toDV)) := Lib.hid (lst_of (by
          have := HO.out
          unfold flDV at this
          rw [List.take_of_length_le (by rw [List.length_map, HL.out]; exact Nat.le_refl _)] at this
          exact this) (by omega))
        go_wp2_with fail
        refine (do_any op A1 k cc _ (xs.map toDV) _ HLs.out (by omega)).mono ?_
        rintro e w1 ⟨hd1, hb1⟩
        have HL1 := Lib.hid (HLs.out.on hb1)
        have HB1 := Lib.hid (bl_trans HW.out HW.out.size hb1)
        clear hb1
        rcases hd1 with ⟨r1, rfl⟩ | ⟨v1, g1, r1, rfl, s1⟩
        · have R1 := Lib.hid r1
          clear r1
          go_wp2_with fail
          refine (refDo_any op A1 k cc _ (xs.map toDV) _ HL1.out (by omega) HI.out).mono ?_
          rintro e w2 ⟨hd2, hb2⟩
          have HB2 := Lib.hid (bl_trans HB1.out HB1.out.size hb2)
          clear hb2
          rcases hd2 with ⟨r2, rfl⟩ | ⟨v2, g2, r2, rfl, s2⟩
          · clear r2
            go_wp2_with fail
            refine (refValues_true none none 0 0 0 0 [] [] _ (SlR.nil_ _ _) (SlR.nil_ _ _) (Nat.zero_le _) (fun i x y h => by simp at h)).mono ?_
            rintro e w3 ⟨rfl, hb3⟩
            have HB3 := Lib.hid (bl_trans HB2.out HB2.out.size hb3)
            clear hb3
            go_wp2_with fail
            refine (cell_lives _).mono ?_
            rintro e w4 ⟨rfl, hb4⟩
            have HB4 := Lib.hid (bl_trans HB3.out HB3.out.size hb4)
            clear hb4
            go_wp2_with fail
            go_ret
            exact ⟨rfl, HB4.out⟩
          · rcases one_det R1.out r2 with ⟨_, h⟩ | ⟨_, _, h, _⟩ <;> cases h
        · have R1 := Lib.hid r1
          have S1 := Lib.hid s1
          clear r1 s1
          go_wp2_with fail
          refine (refDo_any op A1 k cc _ (xs.map toDV) _ HL1.out (by omega) HI.out).mono ?_
          rintro e w2 ⟨hd2, hb2⟩
          have HB2 := Lib.hid (bl_trans HB1.out HB1.out.size hb2)
          have HS : Hid (Below w1.heap.size w1 w2) := Lib.hid hb2
          clear hb2
          rcases hd2 with ⟨r2, rfl⟩ | ⟨v2, g2, r2, rfl, s2⟩
          · rcases one_det R1.out r2 with ⟨h, _⟩ | ⟨_, _, _, h, _⟩ <;> cases h
          · have hsm : sameV v1 v2 = true := by
              rcases one_det R1.out r2 with ⟨h, _⟩ | ⟨a, b, h1, h2, h3⟩
              · cases h
              · injection h1 with h1
                injection h2 with h2
                subst h1 h2
                exact h3
            have S2 := Lib.hid s2
            have HM := Lib.hid hsm
            clear r2 s2 hsm
            have cV := Lib.hid (refValues_true (some ⟨g1, 0, none⟩) (some ⟨g2, 0, none⟩) 1 1 1 w2.heap.size [v1] [v2] w2 ((S1.out.on HS.out).more HS.out.size) S2.out (Nat.le_refl _) (fun i x y h h' => by
              cases i with
              | zero => simp at h h'; subst h h'; exact HM.out
              | succ i => simp at h))
            go_wp2_with fail
            refine cV.out.mono ?_
            rintro e w3 ⟨rfl, hb3⟩
            have HB3 := Lib.hid (bl_trans HB2.out HB2.out.size hb3)
            clear hb3
            go_wp2_with fail
            refine (cell_lives _).mono ?_
            rintro e w4 ⟨rfl, hb4⟩
            have HB4 := Lib.hid (bl_trans HB3.out HB3.out.size hb4)
            clear hb4
            go_wp2_with fail
            go_ret
            exact ⟨rfl, HB4.out⟩
  · have hgt : 5 < n := by omega
    clear h
    go_enter Try.func3, Try.ntmps3
    go_wp2_with fail
    refine (cell_lives _).mono ?_
    rintro e w1 ⟨rfl, hb1⟩
    have HB1 := Lib.hid hb1
    clear hb1
    go_wp2_with fail
    go_ret
    exact ⟨rfl, HB1.out⟩
end Go.Proofs.Ytjalphlhooojoaa
