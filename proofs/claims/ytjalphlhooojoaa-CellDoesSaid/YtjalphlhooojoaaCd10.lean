/-
  Values: what the document's operations make of them; whether two rows are the same; a value out of four numbers.
-/
import Derived.Test.YtjalphlhooojoaaCd8
import Derived.Test.YtjalphlhooojoaaCdT
namespace Go.Proofs.Ytjalphlhooojoaa
open Go.RowKit
set_option linter.unusedSimpArgs false
set_option linter.unusedVariables false
attribute [local go_sem] run_store_cplx
theorem TwoR.same {op : Int} {a b c d a' b' c' d' r i r' i' : Nat} (ha : FE a a') (hb : FE b b') (hc : FE c c') (hd : FE d d') (h : TwoR op a b c d r i) (k : TwoR op a' b' c' d' r' i') : FE r r' ∧ FE i i' := by
  obtain ⟨h1, h2, h3, h4⟩ := h
  obtain ⟨k1, k2, k3, k4⟩ := k
  have oa : (BinOp.add = .add ∨ BinOp.add = .sub ∨ BinOp.add = .mul) := .inl rfl
  have os : (BinOp.sub = .add ∨ BinOp.sub = .sub ∨ BinOp.sub = .mul) := .inr (.inl rfl)
  have om : (BinOp.mul = .add ∨ BinOp.mul = .sub ∨ BinOp.mul = .mul) := .inr (.inr rfl)
  by_cases e1 : op = 16
  · obtain ⟨x1, x2⟩ := h1 e1
    obtain ⟨y1, y2⟩ := k1 e1
    exact ⟨x1.same oa ha hc y1, x2.same oa hb hd y2⟩
  · by_cases e2 : op = 17
    · obtain ⟨x1, x2⟩ := h2 e2
      obtain ⟨y1, y2⟩ := k2 e2
      exact ⟨x1.same os ha hc y1, x2.same os hb hd y2⟩
    · by_cases e3 : op = 18
      · obtain ⟨p, q, u, v, x1, x2, x3, x4, x5, x6⟩ := h3 e3
        obtain ⟨p', q', u', v', y1, y2, y3, y4, y5, y6⟩ := k3 e3
        exact ⟨x3.same os (x1.same om ha hc y1) (x2.same om hb hd y2) y3, x6.same oa (x4.same om ha hd y4) (x5.same om hb hc y5) y6⟩
      · obtain ⟨rfl, rfl⟩ := h4 e1 e2 e3
        obtain ⟨rfl, rfl⟩ := k4 e1 e2 e3
        exact ⟨.inl rfl, .inl rfl⟩

/-! Two answers are the same. -/
theorem takes15 : takesNM 15 = 0 ∧ takesNM 16 = 0 ∧ takesNM 17 = 0 ∧ takesNM 18 = 0 ∧ takesNM 19 = 0 ∧ takesNM 20 = 0 := by decide
theorem OneR.fits {op : Int} {xs : List DV} {v : DV} (h : OneR op xs (some v)) : fitsB op xs = true := by
  have gen : takesNM op ≠ 0 → arityN op = takesNM op ∧ kindN op = 1 := fun h0 => by
    have : ¬ (op = 15 ∨ op = 16 ∨ op = 17 ∨ op = 18 ∨ op = 19 ∨ op = 20) := by
      have := takes15
      rintro (rfl | rfl | rfl | rfl | rfl | rfl) <;> omega
    exact ⟨by unfold arityN; rw [if_neg (by omega), if_neg (by omega)], by unfold kindN; rw [if_neg (by omega)]⟩
  cases h with
  | pair a b h1 h2 h3 h4 => subst h1 h2; simp [fitsB, allK, h3, h4, arityN, kindN]
  | two a b r i h1 h2 h3 h4 h5 =>
    subst h2
    have e1 : arityN op = 2 := by unfold arityN; rw [if_pos (by omega)]
    have e2 : kindN op = 2 := by unfold kindN; rw [if_pos (by omega)]
    simp [fitsB, allK, h3, h4, e1, e2]
  | part a h1 h2 h3 =>
    subst h2
    have e1 : arityN op = 1 := by unfold arityN; rw [if_neg (by omega), if_pos (by omega)]
    have e2 : kindN op = 2 := by unfold kindN; rw [if_pos (by omega)]
    simp [fitsB, allK, h3, e1, e2]
  | w1 a h1 h2 h3 =>
    subst h2
    obtain ⟨e1, e2⟩ := gen (by omega)
    simp [fitsB, allK, h3, e1, e2, h1]
  | w2 a b h1 h2 h3 h4 h5 =>
    subst h2
    obtain ⟨e1, e2⟩ := gen (by omega)
    simp [fitsB, allK, h3, h4, e1, e2, h1]
theorem one_det {op : Int} {xs : List DV} {r r' : Option DV} (h : OneR op xs r) (h' : OneR op xs r') : (r = none ∧ r' = none) ∨ ∃ v v', r = some v ∧ r' = some v' ∧ sameV v v' = true := by
  have t15 := takes15
  have nos : ∀ {v : DV}, OneR op xs (some v) → fitsB op xs = false → False := fun h hf => by rw [h.fits] at hf; cases hf
  have key : ∀ {v : DV}, OneR op xs (some v) → OneR op xs none → False := fun {v} h h' => by
    cases h' with
    | no hf => exact nos h hf
    | w2n a b h1 h2 h3 h4 h5 =>
      cases h with
      | pair c d k1 => subst k1; omega
      | two c d r i k1 => rcases k1 with rfl | rfl | rfl <;> omega
      | part c k1 => rcases k1 with rfl | rfl <;> omega
      | w1 c k1 => omega
      | w2 c d k1 k2 k3 k4 k5 =>
        rw [h2] at k2
        simp at k2
        obtain ⟨rfl, rfl⟩ := k2
        rw [h5] at k5
        cases k5
  cases r with
  | none => cases r' with
    | none => exact .inl ⟨rfl, rfl⟩
    | some v => exact absurd (key h' h) id
  | some v => cases r' with
    | none => exact absurd (key h h') id
    | some v' =>
      refine .inr ⟨v, v', rfl, rfl, ?_⟩
      cases h with
      | pair a b h1 h2 => cases h' with
        | pair c d k1 k2 => rw [h2] at k2; simp at k2; obtain ⟨rfl, rfl⟩ := k2; exact sameV_refl _
        | two c d r i k1 => omega
        | part c k1 => omega
        | w1 c k1 => subst h1; omega
        | w2 c d k1 => subst h1; omega
      | two a b r i h1 h2 h3 h4 h5 => cases h' with
        | pair c d k1 => omega
        | two c d r' i' k1 k2 k3 k4 k5 =>
          rw [h2] at k2
          simp at k2
          obtain ⟨rfl, rfl⟩ := k2
          obtain ⟨e1, e2⟩ := TwoR.same (FE.rfl' _) (FE.rfl' _) (FE.rfl' _) (FE.rfl' _) h5 k5
          unfold sameV
          rw [if_pos rfl, if_pos rfl]
          unfold sameB
          rw [e1.alike, e2.alike]
          rfl
        | part c k1 => omega
        | w1 c k1 => rcases h1 with rfl | rfl | rfl <;> omega
        | w2 c d k1 => rcases h1 with rfl | rfl | rfl <;> omega
      | part a h1 h2 => cases h' with
        | pair c d k1 => omega
        | two c d r i k1 => omega
        | part c k1 k2 => rw [h2] at k2; simp at k2; subst k2; exact sameV_refl _
        | w1 c k1 => rcases h1 with rfl | rfl <;> omega
        | w2 c d k1 => rcases h1 with rfl | rfl <;> omega
      | w1 a h1 h2 => cases h' with
        | pair c d k1 => subst k1; omega
        | two c d r i k1 => rcases k1 with rfl | rfl | rfl <;> omega
        | part c k1 => rcases k1 with rfl | rfl <;> omega
        | w1 c k1 k2 => rw [h2] at k2; simp at k2; subst k2; exact sameV_refl _
        | w2 c d k1 => omega
      | w2 a b h1 h2 => cases h' with
        | pair c d k1 => subst k1; omega
        | two c d r i k1 => rcases k1 with rfl | rfl | rfl <;> omega
        | part c k1 => rcases k1 with rfl | rfl <;> omega
        | w1 c k1 => omega
        | w2 c d k1 k2 => rw [h2] at k2; simp at k2; obtain ⟨rfl, rfl⟩ := k2; exact sameV_refl _

/-! Two rows. -/
set_option maxRecDepth 100000 in
set_option maxHeartbeats 1000000 in
theorem refValues_true (A1 A2 : Option Addr) (n c1 c2 B : Nat) (xs ys : List DV) (w : World) (h1 : SlV w B A1 n c1 xs) (h2 : SlV w B A2 n c2 ys) (hB : B ≤ w.heap.size) (hs : ∀ (i : Nat) x y, xs[i]? = some x → ys[i]? = some y → sameV x y = true) :
    Calls Try.prog 9 #[.slice A1 n c1, .slice A2 n c2] w fun e w' => e = .returned (.bool true) ∧ Below w.heap.size w w' := by
  have hm : n ≤ 9223372036854775807 := by have := h1.2.1; have := h1.2.2.1; unfold maxLen at this; omega
  have H1 := Lib.hid h1
  have H2 := Lib.hid h2
  have HB := Lib.hid hB
  have HS := Lib.hid hs
  have hne : ((n : Int) != n) = false := by simp
  clear h1 h2 hB hs
  go_enter Try.func9, Try.ntmps9
  go_wp2
  go_loopw [5] (fun i wr => ∃ k : Nat, i = .int .i64 k ∧ k ≤ n ∧ Hid (Below w.heap.size w wr)) (fun i _ => n - (intOf i).toNat)
  case atStart => exact ⟨0, rfl, Nat.zero_le _, Below.refl _ _⟩
  case round =>
    obtain ⟨k, rfl, hk, HW⟩ := hrel
    by_cases hlt : k < n
    · obtain ⟨b, off, v, rfl, hb, hx, p0, p1, p2⟩ := slv_at H1.out hlt
      obtain ⟨b2, off2, v2, rfl, hb2, hx2, s0, s1, s2⟩ := slv_at H2.out hlt
      have hb' : b < w.heap.size := by have := HB.out; omega
      have hb2' : b2 < w.heap.size := by have := HB.out; omega
      have hsm := HS.out k v v2 hx hx2
      obtain ⟨vk, vn, vx, vy⟩ := v
      obtain ⟨uk, un, ux, uy⟩ := v2
      have HQ : Hid (∀ W : World, Below wr.heap.size wr W → W.cell? ⟨b, off + k * 3, none⟩ = some (.int .i64 vk) ∧ W.cell? ⟨b, off + k * 3 + 1, none⟩ = some (.int .i64 vn) ∧ W.cell? ⟨b, off + k * 3 + 2, none⟩ = some (.complex .f64 vx vy) ∧ W.cell? ⟨b2, off2 + k * 3, none⟩ = some (.int .i64 uk) ∧ W.cell? ⟨b2, off2 + k * 3 + 1, none⟩ = some (.int .i64 un) ∧ W.cell? ⟨b2, off2 + k * 3 + 2, none⟩ = some (.complex .f64 ux uy)) := Lib.hid fun W hW => by
        have hW' := bl_trans HW.out HW.out.size hW
        exact ⟨(hW'.cell hb').trans p0, (hW'.cell hb').trans p1, (hW'.cell hb').trans p2, (hW'.cell hb2').trans s0, (hW'.cell hb2').trans s1, (hW'.cell hb2').trans s2⟩
      have cS : Hid (∀ W : World, Calls Try.prog 24 #[vV vk vn vx vy, vV uk un ux uy] W fun e w' => e = .returned (.bool true) ∧ Below W.heap.size W w') := Lib.hid fun W => by
        have := refSameV_any ⟨vk, vn, vx, vy⟩ ⟨uk, un, ux, uy⟩ W
        rw [hsm] at this
        exact this
      clear p0 p1 p2 s0 s1 s2 hx hx2 hb hb2 hb' hb2' hsm
      go_wp2_with fail
      refine wp_region_held (S := fun W => Below wr.heap.size wr W) (by kernel_rfl) ?_
      change wpAnyH _ _ _ _ _ _ _ _ (World.drew _)
      have hS0 : Below wr.heap.size wr wr.drew := (Below.refl _ _).drew
      refine wpAnyH_take (i := 0) (v := .slice (some ⟨b, off, none⟩) n c1) rfl (by kernel_rfl) (by kernel_rfl) (by kernel_rfl) (fun _ _ _ h => h) (Or.inl ⟨by rfl, by intro W hW; go_simp; try (first | (with_reducible rfl) | omega)⟩) hS0 ?_
      refine wpAnyH_take (i := 1) (v := .int .i64 k) rfl (by kernel_rfl) (by kernel_rfl) (by kernel_rfl) (fun _ _ _ h => h) (Or.inl ⟨by rfl, by intro W hW; go_simp; try (first | (with_reducible rfl) | omega)⟩) hS0 ?_
      refine wpAnyH_take (i := 2) (v := .pointer (some ⟨b, off + k * 3, none⟩)) rfl (by kernel_rfl) (by kernel_rfl) (by kernel_rfl) (fun _ _ _ h => h) (Or.inl ⟨by rfl, by intro W hW; go_simp; try (first | (with_reducible rfl) | omega)⟩) hS0 ?_
      refine wpAnyH_take (i := 3) (v := vV vk vn vx vy) rfl (by kernel_rfl) (by kernel_rfl) (by kernel_rfl) (fun _ _ _ h => h) (Or.inl ⟨by rfl, by intro W hW; obtain ⟨g0, g1, g2, g3, g4, g5⟩ := HQ.out W hW; go_simp; try (first | (with_reducible rfl) | omega)⟩) hS0 ?_
      refine wpAnyH_take (i := 4) (v := .slice (some ⟨b2, off2, none⟩) n c2) rfl (by kernel_rfl) (by kernel_rfl) (by kernel_rfl) (fun _ _ _ h => h) (Or.inl ⟨by rfl, by intro W hW; go_simp; try (first | (with_reducible rfl) | omega)⟩) hS0 ?_
      refine wpAnyH_take (i := 5) (v := .int .i64 k) rfl (by kernel_rfl) (by kernel_rfl) (by kernel_rfl) (fun _ _ _ h => h) (Or.inl ⟨by rfl, by intro W hW; go_simp; try (first | (with_reducible rfl) | omega)⟩) hS0 ?_
      refine wpAnyH_take (i := 6) (v := .pointer (some ⟨b2, off2 + k * 3, none⟩)) rfl (by kernel_rfl) (by kernel_rfl) (by kernel_rfl) (fun _ _ _ h => h) (Or.inl ⟨by rfl, by intro W hW; go_simp; try (first | (with_reducible rfl) | omega)⟩) hS0 ?_
      refine wpAnyH_take (i := 7) (v := vV uk un ux uy) rfl (by kernel_rfl) (by kernel_rfl) (by kernel_rfl) (fun _ _ _ h => h) (Or.inl ⟨by rfl, by intro W hW; obtain ⟨g0, g1, g2, g3, g4, g5⟩ := HQ.out W hW; go_simp; try (first | (with_reducible rfl) | omega)⟩) hS0 ?_
      refine wpAnyH_one (i := 8) (by kernel_rfl) rfl (fun K hK => ?_)
      go_simp
      refine Calls.mono (Lib.hid (cS.out _)).out ?_
      rintro e w4 ⟨rfl, hb4⟩
      have hS4 := bl_trans hS0 hS0.size hb4
      go_simp
      refine hK _ _ ⟨hS4, ?_⟩; clear hK K
      refine wpAnyH_take (i := 9) (v := .bool false) rfl (by kernel_rfl) (by kernel_rfl) (by kernel_rfl) (fun _ _ _ h => h) (Or.inl ⟨by rfl, by intro W hW; go_simp; try (first | (with_reducible rfl) | omega)⟩) hS4 ?_
      refine wpAnyH_done (by kernel_rfl) ?_ _
      go_wp2_with fail
      go_roundw
      case rel => exact ⟨k + 1, by go_num, by omega, Lib.hid (bl_trans HW.out HW.out.size hS4)⟩
      case measure => simp [intOf]; omega
    · have hkn : k = n := by omega
      subst hkn
      go_wp2_with fail
      go_ret
      exact ⟨rfl, HW.out⟩

/-! A value out of four numbers. -/
set_option maxRecDepth 100000 in
set_option maxHeartbeats 1000000 in
theorem value_any (k n re im : Int) (w : World) : Calls Try.prog 6 #[.agg #[.int .i64 k, .int .i64 n, .int .i64 re, .int .i64 im]] w fun e w' => e = .returned (vV k n (nr re) (nr im)) ∧ Below w.heap.size w w' := by
  obtain ⟨w0, hw0⟩ : ∃ w0, w.alloc (.cells #[.int .i64 k, .int .i64 n, .int .i64 re, .int .i64 im] 31) = w0 := ⟨_, rfl⟩
  have hz0 : w0.heap.size = w.heap.size + 1 := by rw [← hw0]; simp
  have cl : ∀ j u, #[Value.int .i64 k, .int .i64 n, .int .i64 re, .int .i64 im][j]? = some u → w0.cell? ⟨w.heap.size, j, none⟩ = some u := fun j u hu => by
    rw [← hw0, cell_of_row _ w.heap.size j _ _ (0, 0) (heap_alloc_new w _)]
    exact hu
  obtain ⟨w1, hw1⟩ : ∃ w1, w0.alloc (.cells #[.int .i64 0, .int .i64 0, .complex .f64 0 0] 29) = w1 := ⟨_, rfl⟩
  have hbx : BX w0 w0.heap.size w1 := by rw [← hw1]; exact BX.of (Below.refl _ _)
  have HQ : Hid (∀ W : World, BX w0 w0.heap.size W → W.cell? ⟨w.heap.size, 0, none⟩ = some (.int .i64 k) ∧ W.cell? ⟨w.heap.size, 1, none⟩ = some (.int .i64 n) ∧ W.cell? ⟨w.heap.size, 2, none⟩ = some (.int .i64 re) ∧ W.cell? ⟨w.heap.size, 3, none⟩ = some (.int .i64 im)) := Lib.hid fun W hW => by
    have hl : w.heap.size < w0.heap.size := by omega
    exact ⟨(hW.bw.cell hl).trans (cl 0 _ rfl), (hW.bw.cell hl).trans (cl 1 _ rfl), (hW.bw.cell hl).trans (cl 2 _ rfl), (hW.bw.cell hl).trans (cl 3 _ rfl)⟩
  have HE0 := Lib.hid hw0
  have HE1 := Lib.hid hw1
  have HBX := Lib.hid hbx
  have HZ := Lib.hid hz0
  have HBW : Hid (∀ W, Below w0.heap.size w0 W → Below w.heap.size w W) := Lib.hid fun W hW => by
    have : Below w.heap.size w w0 := by rw [← hw0]; exact (Below.refl _ _).alloc (Nat.le_refl _) _
    exact this.trans (hW.mono this.size)
  clear cl hw0 hw1 hbx
  go_enter Try.func6, Try.ntmps6
  go_wp2_with fail
  rw [← hz0, HE0.out, HE1.out]
  clear hz0
  refine wp_region_held (S := fun W => BX w0 w0.heap.size W) (by kernel_rfl) ?_
  change wpAnyH _ _ _ _ _ _ _ _ (World.drew _)
  have hS0 : BX w0 w0.heap.size w1.drew := HBX.out.drew
  generalize w1.drew = w3 at hS0 ⊢
  refine wpAnyH_take (i := 0) (v := .pointer (some ⟨w.heap.size, 0, none⟩)) rfl (by kernel_rfl) (by kernel_rfl) (by kernel_rfl) (fun _ _ _ h => h) (Or.inl ⟨by rfl, by intro W hW; go_simp; try (first | (with_reducible rfl) | omega)⟩) hS0 ?_
  refine wpAnyH_take (i := 1) (v := .int .i64 k) rfl (by kernel_rfl) (by kernel_rfl) (by kernel_rfl) (fun _ _ _ h => h) (Or.inl ⟨by rfl, by intro W hW; obtain ⟨g0, g1, g2, g3⟩ := HQ.out W hW; go_simp; try (first | (with_reducible rfl) | omega)⟩) hS0 ?_
  refine wpAnyH_take (i := 2) (v := .pointer (some ⟨w.heap.size, 1, none⟩)) rfl (by kernel_rfl) (by kernel_rfl) (by kernel_rfl) (fun _ _ _ h => h) (Or.inl ⟨by rfl, by intro W hW; go_simp; try (first | (with_reducible rfl) | omega)⟩) hS0 ?_
  refine wpAnyH_take (i := 3) (v := .int .i64 n) rfl (by kernel_rfl) (by kernel_rfl) (by kernel_rfl) (fun _ _ _ h => h) (Or.inl ⟨by rfl, by intro W hW; obtain ⟨g0, g1, g2, g3⟩ := HQ.out W hW; go_simp; try (first | (with_reducible rfl) | omega)⟩) hS0 ?_
  refine wpAnyH_take (i := 4) (v := .pointer (some ⟨w.heap.size, 2, none⟩)) rfl (by kernel_rfl) (by kernel_rfl) (by kernel_rfl) (fun _ _ _ h => h) (Or.inl ⟨by rfl, by intro W hW; go_simp; try (first | (with_reducible rfl) | omega)⟩) hS0 ?_
  refine wpAnyH_take (i := 5) (v := .int .i64 re) rfl (by kernel_rfl) (by kernel_rfl) (by kernel_rfl) (fun _ _ _ h => h) (Or.inl ⟨by rfl, by intro W hW; obtain ⟨g0, g1, g2, g3⟩ := HQ.out W hW; go_simp; try (first | (with_reducible rfl) | omega)⟩) hS0 ?_
  refine wpAnyH_take (i := 6) (v := .pointer (some ⟨w.heap.size, 3, none⟩)) rfl (by kernel_rfl) (by kernel_rfl) (by kernel_rfl) (fun _ _ _ h => h) (Or.inl ⟨by rfl, by intro W hW; go_simp; try (first | (with_reducible rfl) | omega)⟩) hS0 ?_
  refine wpAnyH_take (i := 7) (v := .int .i64 im) rfl (by kernel_rfl) (by kernel_rfl) (by kernel_rfl) (fun _ _ _ h => h) (Or.inl ⟨by rfl, by intro W hW; obtain ⟨g0, g1, g2, g3⟩ := HQ.out W hW; go_simp; try (first | (with_reducible rfl) | omega)⟩) hS0 ?_
  refine wpAnyH_one (i := 8) (by kernel_rfl) rfl (fun K hK => ?_)
  go_simp
  refine Calls.mono (Lib.hid (refPair_any re im _)).out ?_
  rintro e w9 ⟨rfl, rfl⟩
  go_simp
  refine hK _ _ ⟨hS0, ?_⟩; clear hK K
  refine wpAnyH_take (i := 9) (v := vV k n (nr re) (nr im)) rfl (by kernel_rfl) (by kernel_rfl) (by kernel_rfl) (fun _ _ _ h => h) (Or.inl ⟨by rfl, by intro W hW; go_simp; try (first | (with_reducible rfl) | omega)⟩) hS0 ?_
  refine wpAnyH_one (i := 10) (by kernel_rfl) rfl (fun K hK => ?_)
  obtain ⟨u0, e0⟩ := hS0.c0
  obtain ⟨u1, e1⟩ := hS0.c1
  obtain ⟨u2, e2⟩ := hS0.c2
  have f0 := hS0.f0
  have f1 := hS0.f1
  have f2 := hS0.f2
  go_simp
  refine hK _ _ ⟨hS0.put3 _ _ _, ?_⟩; clear hK K
  refine wpAnyH_done (by kernel_rfl) ?_ _
  go_wp2_with fail
  exact bodyPost_ret (v := vV k n (nr re) (nr im)) (by simp [results, Try.results6, go_sem, e0, e1, e2]) rfl ⟨rfl, HBW.out _ (hS0.put3 _ _ _).bw⟩
theorem kd_all {xs : List DV} {a b : DV} {t : Int} (h : xs = [a, b]) (hn : ¬ (a.k = t ∧ b.k = t)) : ((((2 : Nat) : Int) == 2) && allK t xs) = false := by
  subst h
  have : allK t [a, b] = false := by
    rw [Bool.eq_false_iff]
    intro h
    exact hn (allK2 h)
  rw [this]
  simp
theorem kd_all1 {xs : List DV} {a : DV} {t : Int} (h : xs = [a]) (hn : ¬ a.k = t) : ((((1 : Nat) : Int) == 1) && allK t xs) = false := by
  subst h
  have : allK t [a] = false := by
    rw [Bool.eq_false_iff]
    intro h
    exact hn (allK1 h)
  rw [this]
  simp
theorem Lst.two' {w : World} {B : Nat} {A : Option Addr} {c : Nat} {a1 a2 : DV} (h : Lst w B A 2 c [a1, a2]) : ∃ b, A = some ⟨b, 0, none⟩ ∧ b < w.heap.size ∧ w.cell? ⟨b, 0, none⟩ = some (.int .i64 a1.k) ∧ w.cell? ⟨b, 1, none⟩ = some (.int .i64 a1.n) ∧ w.cell? ⟨b, 2, none⟩ = some (.complex .f64 a1.x a1.y) ∧ w.cell? ⟨b, 3, none⟩ = some (.int .i64 a2.k) ∧ w.cell? ⟨b, 4, none⟩ = some (.int .i64 a2.n) ∧ w.cell? ⟨b, 5, none⟩ = some (.complex .f64 a2.x a2.y) := by
  obtain ⟨b, hA, hb, p1, p2, p4, p5⟩ := h.two
  obtain ⟨b', off, v, e, hb', hx, p0, _, _⟩ := slv_at h.sl (show 0 < 2 by omega)
  obtain ⟨b2', off2, v2, e2, hb2, hx2, s0, _, _⟩ := slv_at h.sl (show 1 < 2 by omega)
  rw [hA] at e e2
  simp at e hx e2 hx2
  obtain ⟨rfl, rfl⟩ := e
  obtain ⟨rfl, rfl⟩ := e2
  subst hx
  subst hx2
  simp only [Nat.zero_mul, Nat.one_mul, Nat.add_zero, Nat.zero_add, Nat.reduceAdd] at p0 s0
  exact ⟨b, hA, hb, p0, p1, p2, s0, p4, p5⟩
set_option maxRecDepth 100000 in
set_option maxHeartbeats 2000000 in
theorem refDo15 (A : Option Addr) (n c B : Nat) (xs : List DV) (w : World) (h : Lst w B A n c xs) (hn : n ≤ 1000) :
    Calls Try.prog 8 #[.int .i64 15, .slice A n c] w (IsDo 15 xs w) := by
  have HL : Hid (xs.length = n) := Lib.hid h.sl.1
  have ct : Hid (∀ w : World, Calls Try.prog 19 #[.int .i64 15] w fun e w' => e = .returned (.int .i64 0) ∧ w = w') := Lib.hid fun w => ref_Takes_any 15 w
  by_cases hlen : n = 2
  · subst hlen
    obtain ⟨a1, a2, rfl⟩ := list2 HL.out rfl
    obtain ⟨b, rfl, hbl, p0, p1, p2, p3, p4, p5⟩ := h.two'
    have hne : (((2 : Nat) : Int) != 2) = false := by decide
    by_cases hk : a1.k = 1
    · by_cases hk2 : a2.k = 1
      · have t1 : (a1.k != 1) = false := by simp [hk]
        have t2 : (a2.k != 1) = false := by simp [hk2]
        have HR := Lib.hid (OneR.pair a1 a2 rfl rfl hk hk2)
        obtain ⟨an, han⟩ : ∃ x, a1.n = x := ⟨_, rfl⟩
        obtain ⟨bn, hbn⟩ : ∃ x, a2.n = x := ⟨_, rfl⟩
        rw [han] at p1 HR
        rw [hbn] at p4 HR
        have HQ : Hid (∀ W : World, Below w.heap.size w W → W.cell? ⟨b, 1, none⟩ = some (.int .i64 an) ∧ W.cell? ⟨b, 4, none⟩ = some (.int .i64 bn)) := Lib.hid fun W hW => ⟨(hW.cell hbl).trans p1, (hW.cell hbl).trans p4⟩
        clear h hn hk hk2 hbl p1 p2 p4 p5 han hbn
        generalize a1.k = k1 at *
        generalize a2.k = k2 at *
        go_enter Try.func8, Try.ntmps8
        go_wp2_with fail
        refine (ct.out _).mono ?_
        rintro e w' ⟨rfl, rfl⟩
        go_wp2_with fail
        refine wp_loop_rounds 3 ?_
        rw [rounds_succ]
        go_wp2_with fail
        rw [rounds_succ]
        go_wp2_with fail
        rw [rounds_succ]
        go_wp2_with fail
        refine wp_region_held (S := fun W => Below w.heap.size w W) (by kernel_rfl) ?_
        change wpAnyH _ _ _ _ _ _ _ _ (World.drew _)
        have hS0 : Below w.heap.size w w.drew := (Below.refl _ _).drew
        refine wpAnyH_take (i := 0) (v := .slice (some ⟨b, 0, none⟩) 2 c) rfl (by kernel_rfl) (by kernel_rfl) (by kernel_rfl) (fun _ _ _ h => h) (Or.inl ⟨by rfl, by intro W hW; go_simp; try (first | (with_reducible rfl) | omega)⟩) hS0 ?_
        refine wpAnyH_take (i := 1) (v := .pointer (some ⟨b, 0, none⟩)) rfl (by kernel_rfl) (by kernel_rfl) (by kernel_rfl) (fun _ _ _ h => h) (Or.inl ⟨by rfl, by intro W hW; go_simp; try (first | (with_reducible rfl) | omega)⟩) hS0 ?_
        refine wpAnyH_take (i := 2) (v := .pointer (some ⟨b, 1, none⟩)) rfl (by kernel_rfl) (by kernel_rfl) (by kernel_rfl) (fun _ _ _ h => h) (Or.inl ⟨by rfl, by intro W hW; go_simp; try (first | (with_reducible rfl) | omega)⟩) hS0 ?_
        refine wpAnyH_take (i := 3) (v := .int .i64 an) rfl (by kernel_rfl) (by kernel_rfl) (by kernel_rfl) (fun _ _ _ h => h) (Or.inl ⟨by rfl, by intro W hW; obtain ⟨g0, g1⟩ := HQ.out W hW; go_simp; try (first | (with_reducible rfl) | omega)⟩) hS0 ?_
        refine wpAnyH_take (i := 4) (v := .slice (some ⟨b, 0, none⟩) 2 c) rfl (by kernel_rfl) (by kernel_rfl) (by kernel_rfl) (fun _ _ _ h => h) (Or.inl ⟨by rfl, by intro W hW; go_simp; try (first | (with_reducible rfl) | omega)⟩) hS0 ?_
        refine wpAnyH_take (i := 5) (v := .pointer (some ⟨b, 3, none⟩)) rfl (by kernel_rfl) (by kernel_rfl) (by kernel_rfl) (fun _ _ _ h => h) (Or.inl ⟨by rfl, by intro W hW; go_simp; try (first | (with_reducible rfl) | omega)⟩) hS0 ?_
        refine wpAnyH_take (i := 6) (v := .pointer (some ⟨b, 4, none⟩)) rfl (by kernel_rfl) (by kernel_rfl) (by kernel_rfl) (fun _ _ _ h => h) (Or.inl ⟨by rfl, by intro W hW; go_simp; try (first | (with_reducible rfl) | omega)⟩) hS0 ?_
        refine wpAnyH_take (i := 7) (v := .int .i64 bn) rfl (by kernel_rfl) (by kernel_rfl) (by kernel_rfl) (fun _ _ _ h => h) (Or.inl ⟨by rfl, by intro W hW; obtain ⟨g0, g1⟩ := HQ.out W hW; go_simp; try (first | (with_reducible rfl) | omega)⟩) hS0 ?_
        refine wpAnyH_one (i := 8) (by kernel_rfl) rfl (fun K hK => ?_)
        go_simp
        refine Calls.mono (Lib.hid (refPair_any an bn _)).out ?_
        rintro e w3 ⟨rfl, rfl⟩
        go_simp
        refine hK _ _ ⟨hS0, ?_⟩; clear hK K
        refine wpAnyH_take (i := 9) (v := vV 2 0 (nr an) (nr bn)) rfl (by kernel_rfl) (by kernel_rfl) (by kernel_rfl) (fun _ _ _ h => h) (Or.inl ⟨by rfl, by intro W hW; go_simp; try (first | (with_reducible rfl) | omega)⟩) hS0 ?_
        refine wpAnyH_one (i := 10) (by kernel_rfl) rfl (fun K hK => ?_)
        go_simp
        refine hK _ _ ⟨(hS0.alloc hS0.size _), ?_⟩; clear hK K
        refine wpAnyH_take (i := 11) (v := .slice (some ⟨w.heap.size, 0, none⟩) 1 1) rfl (by kernel_rfl) (by kernel_rfl) (by kernel_rfl) (fun _ _ _ h => h) (Or.inl ⟨by rfl, by intro W hW; go_simp; try (first | (with_reducible rfl) | omega)⟩) (hS0.alloc hS0.size _) ?_
        refine wpAnyH_take (i := 12) (v := .bool true) rfl (by kernel_rfl) (by kernel_rfl) (by kernel_rfl) (fun _ _ _ h => h) (Or.inl ⟨by rfl, by intro W hW; go_simp; try (first | (with_reducible rfl) | omega)⟩) (hS0.alloc hS0.size _) ?_
        refine wpAnyH_done (by kernel_rfl) ?_ _
        go_wp2_with fail
        go_ret2
        exact ⟨.inr ⟨⟨2, 0, nr an, nr bn⟩, _, HR.out, rfl, slv_lit w.drew 2 0 (nr an) (nr bn)⟩, (hS0.alloc hS0.size _)⟩
      · have HN : Hid (OneR 15 [a1, a2] none) := Lib.hid (.no (fits_no HL.out rfl rfl (kd_all rfl (fun hh => hk2 hh.2))))
        have t1 : (a1.k != 1) = false := by simp [hk]
        have t2 : (a2.k != 1) = true := by simp [hk2]
        clear h hn hk hk2 hbl p1 p2 p4 p5
        generalize a1.k = k1 at *
        generalize a2.k = k2 at *
        go_enter Try.func8, Try.ntmps8
        go_wp2_with fail
        refine (ct.out _).mono ?_
        rintro e w' ⟨rfl, rfl⟩
        go_wp2_with fail
        refine wp_loop_rounds 2 ?_
        rw [rounds_succ]
        go_wp2_with fail
        rw [rounds_succ]
        go_wp2_with fail
        go_ret2
        exact ⟨.inl ⟨HN.out, rfl⟩, Below.refl _ _⟩
    · have HN : Hid (OneR 15 [a1, a2] none) := Lib.hid (.no (fits_no HL.out rfl rfl (kd_all rfl (fun hh => hk hh.1))))
      have t1 : (a1.k != 1) = true := by simp [hk]
      clear h hn hk hbl p1 p2 p3 p4 p5
      generalize a1.k = k1 at *
      go_enter Try.func8, Try.ntmps8
      go_wp2_with fail
      refine (ct.out _).mono ?_
      rintro e w' ⟨rfl, rfl⟩
      go_wp2_with fail
      refine wp_loop_rounds 1 ?_
      rw [rounds_succ]
      go_wp2_with fail
      go_ret2
      exact ⟨.inl ⟨HN.out, rfl⟩, Below.refl _ _⟩
  · have HN : Hid (OneR 15 xs none) := Lib.hid (.no (fits_no (m := 2) (t := 1) HL.out rfl rfl (by rw [show (((n : Int)) == 2) = false by simp; omega]; rfl)))
    have hne : ((n : Int) != 2) = true := by simp; omega
    clear h hn hlen
    go_enter Try.func8, Try.ntmps8
    go_wp2_with fail
    refine (ct.out _).mono ?_
    rintro e w' ⟨rfl, rfl⟩
    go_wp2_with fail
    go_ret2
    exact ⟨.inl ⟨HN.out, rfl⟩, Below.refl _ _⟩
set_option maxRecDepth 100000 in
set_option maxHeartbeats 2000000 in
theorem refDo16 (A : Option Addr) (n c B : Nat) (xs : List DV) (w : World) (h : Lst w B A n c xs) (hn : n ≤ 1000) :
    Calls Try.prog 8 #[.int .i64 16, .slice A n c] w (IsDo 16 xs w) := by
  have HL : Hid (xs.length = n) := Lib.hid h.sl.1
  have ct : Hid (∀ w : World, Calls Try.prog 19 #[.int .i64 16] w fun e w' => e = .returned (.int .i64 0) ∧ w = w') := Lib.hid fun w => ref_Takes_any 16 w
  by_cases hlen : n = 2
  · subst hlen
    obtain ⟨a1, a2, rfl⟩ := list2 HL.out rfl
    obtain ⟨b, rfl, hbl, p0, p1, p2, p3, p4, p5⟩ := h.two'
    have hne : (((2 : Nat) : Int) != 2) = false := by decide
    by_cases hk : a1.k = 2
    · by_cases hk2 : a2.k = 2
      · have t1 : (a1.k != 2) = false := by simp [hk]
        have t2 : (a2.k != 2) = false := by simp [hk2]
        have HR : Hid (∀ r i, TwoR 16 a1.x a1.y a2.x a2.y r i → OneR 16 [a1, a2] (some ⟨2, 0, r, i⟩)) := Lib.hid fun r i ht => OneR.two a1 a2 r i (by decide) rfl hk hk2 ht
        obtain ⟨ax, hax⟩ : ∃ x, a1.x = x := ⟨_, rfl⟩
        obtain ⟨ay, hay⟩ : ∃ x, a1.y = x := ⟨_, rfl⟩
        obtain ⟨bx, hbx⟩ : ∃ x, a2.x = x := ⟨_, rfl⟩
        obtain ⟨by_, hby_⟩ : ∃ x, a2.y = x := ⟨_, rfl⟩
        rw [hax, hay] at p2 HR
        rw [hbx, hby_] at p5 HR
        have HQ : Hid (∀ W : World, Below w.heap.size w W → W.cell? ⟨b, 2, none⟩ = some (.complex .f64 ax ay) ∧ W.cell? ⟨b, 5, none⟩ = some (.complex .f64 bx by_)) := Lib.hid fun W hW => ⟨(hW.cell hbl).trans p2, (hW.cell hbl).trans p5⟩
        clear h hn hk hk2 hbl p1 p2 p4 p5 hax hay hbx hby_
        generalize a1.k = k1 at *
        generalize a2.k = k2 at *
        go_enter Try.func8, Try.ntmps8
        go_wp2_with fail
        refine (ct.out _).mono ?_
        rintro e w' ⟨rfl, rfl⟩
        go_wp2_with fail
        refine wp_loop_rounds 3 ?_
        rw [rounds_succ]
        go_wp2_with fail
        rw [rounds_succ]
        go_wp2_with fail
        rw [rounds_succ]
        go_wp2_with fail
        refine wp_region_held (S := fun W => Below w.heap.size w W) (by kernel_rfl) ?_
        change wpAnyH _ _ _ _ _ _ _ _ (World.drew _)
        have hS0 : Below w.heap.size w w.drew := (Below.refl _ _).drew
        refine wpAnyH_take (i := 0) (v := .int .i64 16) rfl (by kernel_rfl) (by kernel_rfl) (by kernel_rfl) (fun _ _ _ h => h) (Or.inl ⟨by rfl, by intro W hW; go_simp; try (first | (with_reducible rfl) | omega)⟩) hS0 ?_
        refine wpAnyH_take (i := 1) (v := .slice (some ⟨b, 0, none⟩) 2 c) rfl (by kernel_rfl) (by kernel_rfl) (by kernel_rfl) (fun _ _ _ h => h) (Or.inl ⟨by rfl, by intro W hW; go_simp; try (first | (with_reducible rfl) | omega)⟩) hS0 ?_
        refine wpAnyH_take (i := 2) (v := .pointer (some ⟨b, 0, none⟩)) rfl (by kernel_rfl) (by kernel_rfl) (by kernel_rfl) (fun _ _ _ h => h) (Or.inl ⟨by rfl, by intro W hW; go_simp; try (first | (with_reducible rfl) | omega)⟩) hS0 ?_
        refine wpAnyH_take (i := 3) (v := .pointer (some ⟨b, 2, none⟩)) rfl (by kernel_rfl) (by kernel_rfl) (by kernel_rfl) (fun _ _ _ h => h) (Or.inl ⟨by rfl, by intro W hW; go_simp; try (first | (with_reducible rfl) | omega)⟩) hS0 ?_
        refine wpAnyH_take (i := 4) (v := .complex .f64 ax ay) rfl (by kernel_rfl) (by kernel_rfl) (by kernel_rfl) (fun _ _ _ h => h) (Or.inl ⟨by rfl, by intro W hW; obtain ⟨g0, g1⟩ := HQ.out W hW; go_simp; try (first | (with_reducible rfl) | omega)⟩) hS0 ?_
        refine wpAnyH_take (i := 5) (v := .slice (some ⟨b, 0, none⟩) 2 c) rfl (by kernel_rfl) (by kernel_rfl) (by kernel_rfl) (fun _ _ _ h => h) (Or.inl ⟨by rfl, by intro W hW; go_simp; try (first | (with_reducible rfl) | omega)⟩) hS0 ?_
        refine wpAnyH_take (i := 6) (v := .pointer (some ⟨b, 3, none⟩)) rfl (by kernel_rfl) (by kernel_rfl) (by kernel_rfl) (fun _ _ _ h => h) (Or.inl ⟨by rfl, by intro W hW; go_simp; try (first | (with_reducible rfl) | omega)⟩) hS0 ?_
        refine wpAnyH_take (i := 7) (v := .pointer (some ⟨b, 5, none⟩)) rfl (by kernel_rfl) (by kernel_rfl) (by kernel_rfl) (fun _ _ _ h => h) (Or.inl ⟨by rfl, by intro W hW; go_simp; try (first | (with_reducible rfl) | omega)⟩) hS0 ?_
        refine wpAnyH_take (i := 8) (v := .complex .f64 bx by_) rfl (by kernel_rfl) (by kernel_rfl) (by kernel_rfl) (fun _ _ _ h => h) (Or.inl ⟨by rfl, by intro W hW; obtain ⟨g0, g1⟩ := HQ.out W hW; go_simp; try (first | (with_reducible rfl) | omega)⟩) hS0 ?_
        refine wpAnyH_one (i := 9) (by kernel_rfl) rfl (fun K hK => ?_)
        go_simp
        refine Calls.mono (Lib.hid (refTwo_any 16 ax ay bx by_ _)).out ?_
        rintro e w3 ⟨r, i, m, rfl, ht, rfl⟩
        have HT := Lib.hid (HR.out _ _ ht)
        clear ht
        have hS1 : Below w.heap.size w (w.drewN (1 + m)) := ⟨rfl, rfl, rfl, Nat.le_refl _, fun _ _ => rfl⟩
        go_simp
        refine hK _ _ ⟨hS1, ?_⟩; clear hK K
        refine wpAnyH_take (i := 10) (v := vV 2 0 r i) rfl (by kernel_rfl) (by kernel_rfl) (by kernel_rfl) (fun _ _ _ h => h) (Or.inl ⟨by rfl, by intro W hW; go_simp; try (first | (with_reducible rfl) | omega)⟩) hS1 ?_
        refine wpAnyH_one (i := 11) (by kernel_rfl) rfl (fun K hK => ?_)
        go_simp
        refine hK _ _ ⟨(hS1.alloc hS1.size _), ?_⟩; clear hK K
        refine wpAnyH_take (i := 12) (v := .slice (some ⟨w.heap.size, 0, none⟩) 1 1) rfl (by kernel_rfl) (by kernel_rfl) (by kernel_rfl) (fun _ _ _ h => h) (Or.inl ⟨by rfl, by intro W hW; go_simp; try (first | (with_reducible rfl) | omega)⟩) (hS1.alloc hS1.size _) ?_
        refine wpAnyH_take (i := 13) (v := .bool true) rfl (by kernel_rfl) (by kernel_rfl) (by kernel_rfl) (fun _ _ _ h => h) (Or.inl ⟨by rfl, by intro W hW; go_simp; try (first | (with_reducible rfl) | omega)⟩) (hS1.alloc hS1.size _) ?_
        refine wpAnyH_done (by kernel_rfl) ?_ _
        go_wp2_with fail
        go_ret2
        exact ⟨.inr ⟨⟨2, 0, r, i⟩, _, HT.out, rfl, slv_lit (w.drewN (1 + m)) 2 0 r i⟩, (hS1.alloc hS1.size _)⟩
      · have HN : Hid (OneR 16 [a1, a2] none) := Lib.hid (.no (fits_no HL.out rfl rfl (kd_all rfl (fun hh => hk2 hh.2))))
        have t1 : (a1.k != 2) = false := by simp [hk]
        have t2 : (a2.k != 2) = true := by simp [hk2]
        clear h hn hk hk2 hbl p1 p2 p4 p5
        generalize a1.k = k1 at *
        generalize a2.k = k2 at *
        go_enter Try.func8, Try.ntmps8
        go_wp2_with fail
        refine (ct.out _).mono ?_
        rintro e w' ⟨rfl, rfl⟩
        go_wp2_with fail
        refine wp_loop_rounds 2 ?_
        rw [rounds_succ]
        go_wp2_with fail
        rw [rounds_succ]
        go_wp2_with fail
        go_ret2
        exact ⟨.inl ⟨HN.out, rfl⟩, Below.refl _ _⟩
    · have HN : Hid (OneR 16 [a1, a2] none) := Lib.hid (.no (fits_no HL.out rfl rfl (kd_all rfl (fun hh => hk hh.1))))
      have t1 : (a1.k != 2) = true := by simp [hk]
      clear h hn hk hbl p1 p2 p3 p4 p5
      generalize a1.k = k1 at *
      go_enter Try.func8, Try.ntmps8
      go_wp2_with fail
      refine (ct.out _).mono ?_
      rintro e w' ⟨rfl, rfl⟩
      go_wp2_with fail
      refine wp_loop_rounds 1 ?_
      rw [rounds_succ]
      go_wp2_with fail
      go_ret2
      exact ⟨.inl ⟨HN.out, rfl⟩, Below.refl _ _⟩
  · have HN : Hid (OneR 16 xs none) := Lib.hid (.no (fits_no (m := 2) (t := 2) HL.out rfl rfl (by rw [show (((n : Int)) == 2) = false by simp; omega]; rfl)))
    have hne : ((n : Int) != 2) = true := by simp; omega
    clear h hn hlen
    go_enter Try.func8, Try.ntmps8
    go_wp2_with fail
    refine (ct.out _).mono ?_
    rintro e w' ⟨rfl, rfl⟩
    go_wp2_with fail
    go_ret2
    exact ⟨.inl ⟨HN.out, rfl⟩, Below.refl _ _⟩
set_option maxRecDepth 100000 in
set_option maxHeartbeats 2000000 in
theorem refDo17 (A : Option Addr) (n c B : Nat) (xs : List DV) (w : World) (h : Lst w B A n c xs) (hn : n ≤ 1000) :
    Calls Try.prog 8 #[.int .i64 17, .slice A n c] w (IsDo 17 xs w) := by
  have HL : Hid (xs.length = n) := Lib.hid h.sl.1
  have ct : Hid (∀ w : World, Calls Try.prog 19 #[.int .i64 17] w fun e w' => e = .returned (.int .i64 0) ∧ w = w') := Lib.hid fun w => ref_Takes_any 17 w
  by_cases hlen : n = 2
  · subst hlen
    obtain ⟨a1, a2, rfl⟩ := list2 HL.out rfl
    obtain ⟨b, rfl, hbl, p0, p1, p2, p3, p4, p5⟩ := h.two'
    have hne : (((2 : Nat) : Int) != 2) = false := by decide
    by_cases hk : a1.k = 2
    · by_cases hk2 : a2.k = 2
      · have t1 : (a1.k != 2) = false := by simp [hk]
        have t2 : (a2.k != 2) = false := by simp [hk2]
        have HR : Hid (∀ r i, TwoR 17 a1.x a1.y a2.x a2.y r i → OneR 17 [a1, a2] (some ⟨2, 0, r, i⟩)) := Lib.hid fun r i ht => OneR.two a1 a2 r i (by decide) rfl hk hk2 ht
        obtain ⟨ax, hax⟩ : ∃ x, a1.x = x := ⟨_, rfl⟩
        obtain ⟨ay, hay⟩ : ∃ x, a1.y = x := ⟨_, rfl⟩
        obtain ⟨bx, hbx⟩ : ∃ x, a2.x = x := ⟨_, rfl⟩
        obtain ⟨by_, hby_⟩ : ∃ x, a2.y = x := ⟨_, rfl⟩
        rw [hax, hay] at p2 HR
        rw [hbx, hby_] at p5 HR
        have HQ : Hid (∀ W : World, Below w.heap.size w W → W.cell? ⟨b, 2, none⟩ = some (.complex .f64 ax ay) ∧ W.cell? ⟨b, 5, none⟩ = some (.complex .f64 bx by_)) := Lib.hid fun W hW => ⟨(hW.cell hbl).trans p2, (hW.cell hbl).trans p5⟩
        clear h hn hk hk2 hbl p1 p2 p4 p5 hax hay hbx hby_
        generalize a1.k = k1 at *
        generalize a2.k = k2 at *
        go_enter Try.func8, Try.ntmps8
        go_wp2_with fail
        refine (ct.out _).mono ?_
        rintro e w' ⟨rfl, rfl⟩
        go_wp2_with fail
        refine wp_loop_rounds 3 ?_
        rw [rounds_succ]
        go_wp2_with fail
        rw [rounds_succ]
        go_wp2_with fail
        rw [rounds_succ]
        go_wp2_with fail
        refine wp_region_held (S := fun W => Below w.heap.size w W) (by kernel_rfl) ?_
        change wpAnyH _ _ _ _ _ _ _ _ (World.drew _)
        have hS0 : Below w.heap.size w w.drew := (Below.refl _ _).drew
        refine wpAnyH_take (i := 0) (v := .int .i64 17) rfl (by kernel_rfl) (by kernel_rfl) (by kernel_rfl) (fun _ _ _ h => h) (Or.inl ⟨by rfl, by intro W hW; go_simp; try (first | (with_reducible rfl) | omega)⟩) hS0 ?_
        refine wpAnyH_take (i := 1) (v := .slice (some ⟨b, 0, none⟩) 2 c) rfl (by kernel_rfl) (by kernel_rfl) (by kernel_rfl) (fun _ _ _ h => h) (Or.inl ⟨by rfl, by intro W hW; go_simp; try (first | (with_reducible rfl) | omega)⟩) hS0 ?_
        refine wpAnyH_take (i := 2) (v := .pointer (some ⟨b, 0, none⟩)) rfl (by kernel_rfl) (by kernel_rfl) (by kernel_rfl) (fun _ _ _ h => h) (Or.inl ⟨by rfl, by intro W hW; go_simp; try (first | (with_reducible rfl) | omega)⟩) hS0 ?_
        refine wpAnyH_take (i := 3) (v := .pointer (some ⟨b, 2, none⟩)) rfl (by kernel_rfl) (by kernel_rfl) (by kernel_rfl) (fun _ _ _ h => h) (Or.inl ⟨by rfl, by intro W hW; go_simp; try (first | (with_reducible rfl) | omega)⟩) hS0 ?_
        refine wpAnyH_take (i := 4) (v := .complex .f64 ax ay) rfl (by kernel_rfl) (by kernel_rfl) (by kernel_rfl) (fun _ _ _ h => h) (Or.inl ⟨by rfl, by intro W hW; obtain ⟨g0, g1⟩ := HQ.out W hW; go_simp; try (first | (with_reducible rfl) | omega)⟩) hS0 ?_
        refine wpAnyH_take (i := 5) (v := .slice (some ⟨b, 0, none⟩) 2 c) rfl (by kernel_rfl) (by kernel_rfl) (by kernel_rfl) (fun _ _ _ h => h) (Or.inl ⟨by rfl, by intro W hW; go_simp; try (first | (with_reducible rfl) | omega)⟩) hS0 ?_
        refine wpAnyH_take (i := 6) (v := .pointer (some ⟨b, 3, none⟩)) rfl (by kernel_rfl) (by kernel_rfl) (by kernel_rfl) (fun _ _ _ h => h) (Or.inl ⟨by rfl, by intro W hW; go_simp; try (first | (with_reducible rfl) | omega)⟩) hS0 ?_
        refine wpAnyH_take (i := 7) (v := .pointer (some ⟨b, 5, none⟩)) rfl (by kernel_rfl) (by kernel_rfl) (by kernel_rfl) (fun _ _ _ h => h) (Or.inl ⟨by rfl, by intro W hW; go_simp; try (first | (with_reducible rfl) | omega)⟩) hS0 ?_
        refine wpAnyH_take (i := 8) (v := .complex .f64 bx by_) rfl (by kernel_rfl) (by kernel_rfl) (by kernel_rfl) (fun _ _ _ h => h) (Or.inl ⟨by rfl, by intro W hW; obtain ⟨g0, g1⟩ := HQ.out W hW; go_simp; try (first | (with_reducible rfl) | omega)⟩) hS0 ?_
        refine wpAnyH_one (i := 9) (by kernel_rfl) rfl (fun K hK => ?_)
        go_simp
        refine Calls.mono (Lib.hid (refTwo_any 17 ax ay bx by_ _)).out ?_
        rintro e w3 ⟨r, i, m, rfl, ht, rfl⟩
        have HT := Lib.hid (HR.out _ _ ht)
        clear ht
        have hS1 : Below w.heap.size w (w.drewN (1 + m)) := ⟨rfl, rfl, rfl, Nat.le_refl _, fun _ _ => rfl⟩
        go_simp
        refine hK _ _ ⟨hS1, ?_⟩; clear hK K
        refine wpAnyH_take (i := 10) (v := vV 2 0 r i) rfl (by kernel_rfl) (by kernel_rfl) (by kernel_rfl) (fun _ _ _ h => h) (Or.inl ⟨by rfl, by intro W hW; go_simp; try (first | (with_reducible rfl) | omega)⟩) hS1 ?_
        refine wpAnyH_one (i := 11) (by kernel_rfl) rfl (fun K hK => ?_)
        go_simp
        refine hK _ _ ⟨(hS1.alloc hS1.size _), ?_⟩; clear hK K
        refine wpAnyH_take (i := 12) (v := .slice (some ⟨w.heap.size, 0, none⟩) 1 1) rfl (by kernel_rfl) (by kernel_rfl) (by kernel_rfl) (fun _ _ _ h => h) (Or.inl ⟨by rfl, by intro W hW; go_simp; try (first | (with_reducible rfl) | omega)⟩) (hS1.alloc hS1.size _) ?_
        refine wpAnyH_take (i := 13) (v := .bool true) rfl (by kernel_rfl) (by kernel_rfl) (by kernel_rfl) (fun _ _ _ h => h) (Or.inl ⟨by rfl, by intro W hW; go_simp; try (first | (with_reducible rfl) | omega)⟩) (hS1.alloc hS1.size _) ?_
        refine wpAnyH_done (by kernel_rfl) ?_ _
        go_wp2_with fail
        go_ret2
        exact ⟨.inr ⟨⟨2, 0, r, i⟩, _, HT.out, rfl, slv_lit (w.drewN (1 + m)) 2 0 r i⟩, (hS1.alloc hS1.size _)⟩
      · have HN : Hid (OneR 17 [a1, a2] none) := Lib.hid (.no (fits_no HL.out rfl rfl (kd_all rfl (fun hh => hk2 hh.2))))
        have t1 : (a1.k != 2) = false := by simp [hk]
        have t2 : (a2.k != 2) = true := by simp [hk2]
        clear h hn hk hk2 hbl p1 p2 p4 p5
        generalize a1.k = k1 at *
        generalize a2.k = k2 at *
        go_enter Try.func8, Try.ntmps8
        go_wp2_with fail
        refine (ct.out _).mono ?_
        rintro e w' ⟨rfl, rfl⟩
        go_wp2_with fail
        refine wp_loop_rounds 2 ?_
        rw [rounds_succ]
        go_wp2_with fail
        rw [rounds_succ]
        go_wp2_with fail
        go_ret2
        exact ⟨.inl ⟨HN.out, rfl⟩, Below.refl _ _⟩
    · have HN : Hid (OneR 17 [a1, a2] none) := Lib.hid (.no (fits_no HL.out rfl rfl (kd_all rfl (fun hh => hk hh.1))))
      have t1 : (a1.k != 2) = true := by simp [hk]
      clear h hn hk hbl p1 p2 p3 p4 p5
      generalize a1.k = k1 at *
      go_enter Try.func8, Try.ntmps8
      go_wp2_with fail
      refine (ct.out _).mono ?_
      rintro e w' ⟨rfl, rfl⟩
      go_wp2_with fail
      refine wp_loop_rounds 1 ?_
      rw [rounds_succ]
      go_wp2_with fail
      go_ret2
      exact ⟨.inl ⟨HN.out, rfl⟩, Below.refl _ _⟩
  · have HN : Hid (OneR 17 xs none) := Lib.hid (.no (fits_no (m := 2) (t := 2) HL.out rfl rfl (by rw [show (((n : Int)) == 2) = false by simp; omega]; rfl)))
    have hne : ((n : Int) != 2) = true := by simp; omega
    clear h hn hlen
    go_enter Try.func8, Try.ntmps8
    go_wp2_with fail
    refine (ct.out _).mono ?_
    rintro e w' ⟨rfl, rfl⟩
    go_wp2_with fail
    go_ret2
    exact ⟨.inl ⟨HN.out, rfl⟩, Below.refl _ _⟩
set_option maxRecDepth 100000 in
set_option maxHeartbeats 2000000 in
theorem refDo18 (A : Option Addr) (n c B : Nat) (xs : List DV) (w : World) (h : Lst w B A n c xs) (hn : n ≤ 1000) :
    Calls Try.prog 8 #[.int .i64 18, .slice A n c] w (IsDo 18 xs w) := by
  have HL : Hid (xs.length = n) := Lib.hid h.sl.1
  have ct : Hid (∀ w : World, Calls Try.prog 19 #[.int .i64 18] w fun e w' => e = .returned (.int .i64 0) ∧ w = w') := Lib.hid fun w => ref_Takes_any 18 w
  by_cases hlen : n = 2
  · subst hlen
    obtain ⟨a1, a2, rfl⟩ := list2 HL.out rfl
    obtain ⟨b, rfl, hbl, p0, p1, p2, p3, p4, p5⟩ := h.two'
    have hne : (((2 : Nat) : Int) != 2) = false := by decide
    by_cases hk : a1.k = 2
    · by_cases hk2 : a2.k = 2
      · have t1 : (a1.k != 2) = false := by simp [hk]
        have t2 : (a2.k != 2) = false := by simp [hk2]
        have HR : Hid (∀ r i, TwoR 18 a1.x a1.y a2.x a2.y r i → OneR 18 [a1, a2] (some ⟨2, 0, r, i⟩)) := Lib.hid fun r i ht => OneR.two a1 a2 r i (by decide) rfl hk hk2 ht
        obtain ⟨ax, hax⟩ : ∃ x, a1.x = x := ⟨_, rfl⟩
        obtain ⟨ay, hay⟩ : ∃ x, a1.y = x := ⟨_, rfl⟩
        obtain ⟨bx, hbx⟩ : ∃ x, a2.x = x := ⟨_, rfl⟩
        obtain ⟨by_, hby_⟩ : ∃ x, a2.y = x := ⟨_, rfl⟩
        rw [hax, hay] at p2 HR
        rw [hbx, hby_] at p5 HR
        have HQ : Hid (∀ W : World, Below w.heap.size w W → W.cell? ⟨b, 2, none⟩ = some (.complex .f64 ax ay) ∧ W.cell? ⟨b, 5, none⟩ = some (.complex .f64 bx by_)) := Lib.hid fun W hW => ⟨(hW.cell hbl).trans p2, (hW.cell hbl).trans p5⟩
        clear h hn hk hk2 hbl p1 p2 p4 p5 hax hay hbx hby_
        generalize a1.k = k1 at *
        generalize a2.k = k2 at *
        go_enter Try.func8, Try.ntmps8
        go_wp2_with fail
        refine (ct.out _).mono ?_
        rintro e w' ⟨rfl, rfl⟩
        go_wp2_with fail
        refine wp_loop_rounds 3 ?_
        rw [rounds_succ]
        go_wp2_with fail
        rw [rounds_succ]
        go_wp2_with fail
        rw [rounds_succ]
        go_wp2_with fail
        refine wp_region_held (S := fun W => Below w.heap.size w W) (by kernel_rfl) ?_
        change wpAnyH _ _ _ _ _ _ _ _ (World.drew _)
        have hS0 : Below w.heap.size w w.drew := (Below.refl _ _).drew
        refine wpAnyH_take (i := 0) (v := .int .i64 18) rfl (by kernel_rfl) (by kernel_rfl) (by kernel_rfl) (fun _ _ _ h => h) (Or.inl ⟨by rfl, by intro W hW; go_simp; try (first | (with_reducible rfl) | omega)⟩) hS0 ?_
        refine wpAnyH_take (i := 1) (v := .slice (some ⟨b, 0, none⟩) 2 c) rfl (by kernel_rfl) (by kernel_rfl) (by kernel_rfl) (fun _ _ _ h => h) (Or.inl ⟨by rfl, by intro W hW; go_simp; try (first | (with_reducible rfl) | omega)⟩) hS0 ?_
        refine wpAnyH_take (i := 2) (v := .pointer (some ⟨b, 0, none⟩)) rfl (by kernel_rfl) (by kernel_rfl) (by kernel_rfl) (fun _ _ _ h => h) (Or.inl ⟨by rfl, by intro W hW; go_simp; try (first | (with_reducible rfl) | omega)⟩) hS0 ?_
        refine wpAnyH_take (i := 3) (v := .pointer (some ⟨b, 2, none⟩)) rfl (by kernel_rfl) (by kernel_rfl) (by kernel_rfl) (fun _ _ _ h => h) (Or.inl ⟨by rfl, by intro W hW; go_simp; try (first | (with_reducible rfl) | omega)⟩) hS0 ?_
        refine wpAnyH_take (i := 4) (v := .complex .f64 ax ay) rfl (by kernel_rfl) (by kernel_rfl) (by kernel_rfl) (fun _ _ _ h => h) (Or.inl ⟨by rfl, by intro W hW; obtain ⟨g0, g1⟩ := HQ.out W hW; go_simp; try (first | (with_reducible rfl) | omega)⟩) hS0 ?_
        refine wpAnyH_take (i := 5) (v := .slice (some ⟨b, 0, none⟩) 2 c) rfl (by kernel_rfl) (by kernel_rfl) (by kernel_rfl) (fun _ _ _ h => h) (Or.inl ⟨by rfl, by intro W hW; go_simp; try (first | (with_reducible rfl) | omega)⟩) hS0 ?_
        refine wpAnyH_take (i := 6) (v := .pointer (some ⟨b, 3, none⟩)) rfl (by kernel_rfl) (by kernel_rfl) (by kernel_rfl) (fun _ _ _ h => h) (Or.inl ⟨by rfl, by intro W hW; go_simp; try (first | (with_reducible rfl) | omega)⟩) hS0 ?_
        refine wpAnyH_take (i := 7) (v := .pointer (some ⟨b, 5, none⟩)) rfl (by kernel_rfl) (by kernel_rfl) (by kernel_rfl) (fun _ _ _ h => h) (Or.inl ⟨by rfl, by intro W hW; go_simp; try (first | (with_reducible rfl) | omega)⟩) hS0 ?_
        refine wpAnyH_take (i := 8) (v := .complex .f64 bx by_) rfl (by kernel_rfl) (by kernel_rfl) (by kernel_rfl) (fun _ _ _ h => h) (Or.inl ⟨by rfl, by intro W hW; obtain ⟨g0, g1⟩ := HQ.out W hW; go_simp; try (first | (with_reducible rfl) | omega)⟩) hS0 ?_
        refine wpAnyH_one (i := 9) (by kernel_rfl) rfl (fun K hK => ?_)
        go_simp
        refine Calls.mono (Lib.hid (refTwo_any 18 ax ay bx by_ _)).out ?_
        rintro e w3 ⟨r, i, m, rfl, ht, rfl⟩
        have HT := Lib.hid (HR.out _ _ ht)
        clear ht
        have hS1 : Below w.heap.size w (w.drewN (1 + m)) := ⟨rfl, rfl, rfl, Nat.le_refl _, fun _ _ => rfl⟩
        go_simp
        refine hK _ _ ⟨hS1, ?_⟩; clear hK K
        refine wpAnyH_take (i := 10) (v := vV 2 0 r i) rfl (by kernel_rfl) (by kernel_rfl) (by kernel_rfl) (fun _ _ _ h => h) (Or.inl ⟨by rfl, by intro W hW; go_simp; try (first | (with_reducible rfl) | omega)⟩) hS1 ?_
        refine wpAnyH_one (i := 11) (by kernel_rfl) rfl (fun K hK => ?_)
        go_simp
        refine hK _ _ ⟨(hS1.alloc hS1.size _), ?_⟩; clear hK K
        refine wpAnyH_take (i := 12) (v := .slice (some ⟨w.heap.size, 0, none⟩) 1 1) rfl (by kernel_rfl) (by kernel_rfl) (by kernel_rfl) (fun _ _ _ h => h) (Or.inl ⟨by rfl, by intro W hW; go_simp; try (first | (with_reducible rfl) | omega)⟩) (hS1.alloc hS1.size _) ?_
        refine wpAnyH_take (i := 13) (v := .bool true) rfl (by kernel_rfl) (by kernel_rfl) (by kernel_rfl) (fun _ _ _ h => h) (Or.inl ⟨by rfl, by intro W hW; go_simp; try (first | (with_reducible rfl) | omega)⟩) (hS1.alloc hS1.size _) ?_
        refine wpAnyH_done (by kernel_rfl) ?_ _
        go_wp2_with fail
        go_ret2
        exact ⟨.inr ⟨⟨2, 0, r, i⟩, _, HT.out, rfl, slv_lit (w.drewN (1 + m)) 2 0 r i⟩, (hS1.alloc hS1.size _)⟩
      · have HN : Hid (OneR 18 [a1, a2] none) := Lib.hid (.no (fits_no HL.out rfl rfl (kd_all rfl (fun hh => hk2 hh.2))))
        have t1 : (a1.k != 2) = false := by simp [hk]
        have t2 : (a2.k != 2) = true := by simp [hk2]
        clear h hn hk hk2 hbl p1 p2 p4 p5
        generalize a1.k = k1 at *
        generalize a2.k = k2 at *
        go_enter Try.func8, Try.ntmps8
        go_wp2_with fail
        refine (ct.out _).mono ?_
        rintro e w' ⟨rfl, rfl⟩
        go_wp2_with fail
        refine wp_loop_rounds 2 ?_
        rw [rounds_succ]
        go_wp2_with fail
        rw [rounds_succ]
        go_wp2_with fail
        go_ret2
        exact ⟨.inl ⟨HN.out, rfl⟩, Below.refl _ _⟩
    · have HN : Hid (OneR 18 [a1, a2] none) := Lib.hid (.no (fits_no HL.out rfl rfl (kd_all rfl (fun hh => hk hh.1))))
      have t1 : (a1.k != 2) = true := by simp [hk]
      clear h hn hk hbl p1 p2 p3 p4 p5
      generalize a1.k = k1 at *
      go_enter Try.func8, Try.ntmps8
      go_wp2_with fail
      refine (ct.out _).mono ?_
      rintro e w' ⟨rfl, rfl⟩
      go_wp2_with fail
      refine wp_loop_rounds 1 ?_
      rw [rounds_succ]
      go_wp2_with fail
      go_ret2
      exact ⟨.inl ⟨HN.out, rfl⟩, Below.refl _ _⟩
  · have HN : Hid (OneR 18 xs none) := Lib.hid (.no (fits_no (m := 2) (t := 2) HL.out rfl rfl (by rw [show (((n : Int)) == 2) = false by simp; omega]; rfl)))
    have hne : ((n : Int) != 2) = true := by simp; omega
    clear h hn hlen
    go_enter Try.func8, Try.ntmps8
    go_wp2_with fail
    refine (ct.out _).mono ?_
    rintro e w' ⟨rfl, rfl⟩
    go_wp2_with fail
    go_ret2
    exact ⟨.inl ⟨HN.out, rfl⟩, Below.refl _ _⟩
set_option maxRecDepth 100000 in
set_option maxHeartbeats 2000000 in
theorem refDo19 (A : Option Addr) (n c B : Nat) (xs : List DV) (w : World) (h : Lst w B A n c xs) (hn : n ≤ 1000) :
    Calls Try.prog 8 #[.int .i64 19, .slice A n c] w (IsDo 19 xs w) := by
  have HL : Hid (xs.length = n) := Lib.hid h.sl.1
  have ct : Hid (∀ w : World, Calls Try.prog 19 #[.int .i64 19] w fun e w' => e = .returned (.int .i64 0) ∧ w = w') := Lib.hid fun w => ref_Takes_any 19 w
  by_cases hlen : n = 1
  · subst hlen
    obtain ⟨a1, rfl⟩ := list1 HL.out rfl
    obtain ⟨b, rfl, hbl, p0, p1, p2⟩ := h.one
    have hne : (((1 : Nat) : Int) != 1) = false := by decide
    by_cases hk : a1.k = 2
    · have t1 : (a1.k != 2) = false := by simp [hk]
      have HR := Lib.hid (OneR.part (op := 19) a1 (by decide) rfl hk)
      obtain ⟨ax, hax⟩ : ∃ x, a1.x = x := ⟨_, rfl⟩
      obtain ⟨ay, hay⟩ : ∃ x, a1.y = x := ⟨_, rfl⟩
      rw [hax, hay] at p2 HR
      have cp : Hid (∀ w : World, Calls Try.prog 20 #[.int .i64 19, .complex .f64 ax ay] w fun e w' => e = .returned (.int .i64 (partOf 19 ax ay)) ∧ w = w') := Lib.hid fun w => refPart_any 19 ax ay w
      obtain ⟨r, hr⟩ : ∃ x, partOf 19 ax ay = x := ⟨_, rfl⟩
      rw [hr] at cp HR
      clear h hn hk hbl p1 hax hay hr
      generalize a1.k = k1 at *
      go_enter Try.func8, Try.ntmps8
      go_wp2_with fail
      refine (ct.out _).mono ?_
      rintro e w' ⟨rfl, rfl⟩
      go_wp2_with fail
      refine wp_loop_rounds 2 ?_
      rw [rounds_succ]
      go_wp2_with fail
      rw [rounds_succ]
      go_wp2_with fail
      refine (cp.out _).mono ?_
      rintro e w' ⟨rfl, rfl⟩
      go_wp2_with fail
      go_ret2
      exact ⟨.inr ⟨⟨1, r, 0, 0⟩, _, HR.out, rfl, slv_lit w 1 r 0 0⟩, ((Below.refl w.heap.size w).alloc (Below.refl w.heap.size w).size _)⟩
    · have HN : Hid (OneR 19 [a1] none) := Lib.hid (.no (fits_no HL.out rfl rfl (kd_all1 rfl hk)))
      have t1 : (a1.k != 2) = true := by simp [hk]
      clear h hn hk hbl p1 p2
      generalize a1.k = k1 at *
      go_enter Try.func8, Try.ntmps8
      go_wp2_with fail
      refine (ct.out _).mono ?_
      rintro e w' ⟨rfl, rfl⟩
      go_wp2_with fail
      refine wp_loop_rounds 1 ?_
      rw [rounds_succ]
      go_wp2_with fail
      go_ret2
      exact ⟨.inl ⟨HN.out, rfl⟩, Below.refl _ _⟩
  · have HN : Hid (OneR 19 xs none) := Lib.hid (.no (fits_no (m := 1) (t := 2) HL.out rfl rfl (by rw [show (((n : Int)) == 1) = false by simp; omega]; rfl)))
    have hne : ((n : Int) != 1) = true := by simp; omega
    clear h hn hlen
    go_enter Try.func8, Try.ntmps8
    go_wp2_with fail
    refine (ct.out _).mono ?_
    rintro e w' ⟨rfl, rfl⟩
    go_wp2_with fail
    go_ret2
    exact ⟨.inl ⟨HN.out, rfl⟩, Below.refl _ _⟩
set_option maxRecDepth 100000 in
set_option maxHeartbeats 2000000 in
theorem refDo20 (A : Option Addr) (n c B : Nat) (xs : List DV) (w : World) (h : Lst w B A n c xs) (hn : n ≤ 1000) :
    Calls Try.prog 8 #[.int .i64 20, .slice A n c] w (IsDo 20 xs w) := by
  have HL : Hid (xs.length = n) := Lib.hid h.sl.1
  have ct : Hid (∀ w : World, Calls Try.prog 19 #[.int .i64 20] w fun e w' => e = .returned (.int .i64 0) ∧ w = w') := Lib.hid fun w => ref_Takes_any 20 w
  by_cases hlen : n = 1
  · subst hlen
    obtain ⟨a1, rfl⟩ := list1 HL.out rfl
    obtain ⟨b, rfl, hbl, p0, p1, p2⟩ := h.one
    have hne : (((1 : Nat) : Int) != 1) = false := by decide
    by_cases hk : a1.k = 2
    · have t1 : (a1.k != 2) = false := by simp [hk]
      have HR := Lib.hid (OneR.part (op := 20) a1 (by decide) rfl hk)
      obtain ⟨ax, hax⟩ : ∃ x, a1.x = x := ⟨_, rfl⟩
      obtain ⟨ay, hay⟩ : ∃ x, a1.y = x := ⟨_, rfl⟩
      rw [hax, hay] at p2 HR
      have cp : Hid (∀ w : World, Calls Try.prog 20 #[.int .i64 20, .complex .f64 ax ay] w fun e w' => e = .returned (.int .i64 (partOf 20 ax ay)) ∧ w = w') := Lib.hid fun w => refPart_any 20 ax ay w
      obtain ⟨r, hr⟩ : ∃ x, partOf 20 ax ay = x := ⟨_, rfl⟩
      rw [hr] at cp HR
      clear h hn hk hbl p1 hax hay hr
      generalize a1.k = k1 at *
      go_enter Try.func8, Try.ntmps8
      go_wp2_with fail
      refine (ct.out _).mono ?_
      rintro e w' ⟨rfl, rfl⟩
      go_wp2_with fail
      refine wp_loop_rounds 2 ?_
      rw [rounds_succ]
      go_wp2_with fail
      rw [rounds_succ]
      go_wp2_with fail
      refine (cp.out _).mono ?_
      rintro e w' ⟨rfl, rfl⟩
      go_wp2_with fail
      go_ret2
      exact ⟨.inr ⟨⟨1, r, 0, 0⟩, _, HR.out, rfl, slv_lit w 1 r 0 0⟩, ((Below.refl w.heap.size w).alloc (Below.refl w.heap.size w).size _)⟩
    · have HN : Hid (OneR 20 [a1] none) := Lib.hid (.no (fits_no HL.out rfl rfl (kd_all1 rfl hk)))
      have t1 : (a1.k != 2) = true := by simp [hk]
      clear h hn hk hbl p1 p2
      generalize a1.k = k1 at *
      go_enter Try.func8, Try.ntmps8
      go_wp2_with fail
      refine (ct.out _).mono ?_
      rintro e w' ⟨rfl, rfl⟩
      go_wp2_with fail
      refine wp_loop_rounds 1 ?_
      rw [rounds_succ]
      go_wp2_with fail
      go_ret2
      exact ⟨.inl ⟨HN.out, rfl⟩, Below.refl _ _⟩
  · have HN : Hid (OneR 20 xs none) := Lib.hid (.no (fits_no (m := 1) (t := 2) HL.out rfl rfl (by rw [show (((n : Int)) == 1) = false by simp; omega]; rfl)))
    have hne : ((n : Int) != 1) = true := by simp; omega
    clear h hn hlen
    go_enter Try.func8, Try.ntmps8
    go_wp2_with fail
    refine (ct.out _).mono ?_
    rintro e w' ⟨rfl, rfl⟩
    go_wp2_with fail
    go_ret2
    exact ⟨.inl ⟨HN.out, rfl⟩, Below.refl _ _⟩
set_option maxRecDepth 100000 in
set_option maxHeartbeats 2000000 in
theorem refDoW1 (A : Option Addr) (n c B : Nat) (xs : List DV) (w : World) (h : Lst w B A n c xs) (hn : n ≤ 1000) (op : Int) (ht : takesNM op = 1) (t15 : (op == 15) = false) (t16 : (op == 16) = false) (t17 : (op == 17) = false) (t18 : (op == 18) = false) (t19 : (op == 19) = false) (t20 : (op == 20) = false) (har : arityN op = takesNM op) (hkd : kindN op = 1) :
    Calls Try.prog 8 #[.int .i64 op, .slice A n c] w (IsDo op xs w) := by
  have HL : Hid (xs.length = n) := Lib.hid h.sl.1
  have ct : Hid (∀ w : World, Calls Try.prog 19 #[.int .i64 op] w fun e w' => e = .returned (.int .i64 (1)) ∧ w = w') := Lib.hid fun w => by have := ref_Takes_any op w; rw [ht] at this; exact this
  by_cases hlen : n = 1
  · subst hlen
    obtain ⟨a1, rfl⟩ := list1 HL.out rfl
    obtain ⟨b, rfl, hbl, p0, p1, p2⟩ := h.one
    have hne : (((1 : Nat) : Int) != 1) = false := by decide
    by_cases hk : a1.k = 1
    · have t1 : (a1.k != 1) = false := by simp [hk]
      have HR := Lib.hid (OneR.w1 (op := op) a1 ht rfl hk)
      obtain ⟨an, han⟩ : ∃ x, a1.n = x := ⟨_, rfl⟩
      rw [han] at p1 HR
      have cp : Hid (∀ w : World, Calls Try.prog 22 #[.int .i64 op, .int .i64 an] w fun e w' => e = .returned (.int .i64 (oneM op an)) ∧ w = w') := Lib.hid fun w => ref_One_any op an w
      obtain ⟨r, hr⟩ : ∃ x, oneM op an = x := ⟨_, rfl⟩
      rw [hr] at cp HR
      clear h hn hk hbl p2 han hr har hkd ht
      generalize a1.k = k1 at *
      go_enter Try.func8, Try.ntmps8
      go_wp2_with fail
      refine (ct.out _).mono ?_
      rintro e w' ⟨rfl, rfl⟩
      go_wp2_with fail
      refine (ct.out _).mono ?_
      rintro e w' ⟨rfl, rfl⟩
      go_wp2_with fail
      refine wp_loop_rounds 2 ?_
      rw [rounds_succ]
      go_wp2_with fail
      rw [rounds_succ]
      go_wp2_with fail
      refine (cp.out _).mono ?_
      rintro e w' ⟨rfl, rfl⟩
      go_wp2_with fail
      go_ret2
      exact ⟨.inr ⟨⟨1, r, 0, 0⟩, _, HR.out, rfl, slv_lit w 1 r 0 0⟩, ((Below.refl w.heap.size w).alloc (Below.refl w.heap.size w).size _)⟩
    · have HN : Hid (OneR op [a1] none) := Lib.hid (.no (fits_no HL.out (har.trans ht) hkd (kd_all1 rfl hk)))
      have t1 : (a1.k != 1) = true := by simp [hk]
      clear h hn hk hbl p1 p2 har hkd ht
      generalize a1.k = k1 at *
      go_enter Try.func8, Try.ntmps8
      go_wp2_with fail
      refine (ct.out _).mono ?_
      rintro e w' ⟨rfl, rfl⟩
      go_wp2_with fail
      refine (ct.out _).mono ?_
      rintro e w' ⟨rfl, rfl⟩
      go_wp2_with fail
      refine wp_loop_rounds 1 ?_
      rw [rounds_succ]
      go_wp2_with fail
      go_ret2
      exact ⟨.inl ⟨HN.out, rfl⟩, Below.refl _ _⟩
  · have HN : Hid (OneR op xs none) := Lib.hid (.no (fits_no (m := 1) (t := 1) HL.out (har.trans ht) hkd (by rw [show (((n : Int)) == 1) = false by simp; omega]; rfl)))
    have hne : ((n : Int) != 1) = true := by simp; omega
    clear h hn hlen har hkd ht
    go_enter Try.func8, Try.ntmps8
    go_wp2_with fail
    refine (ct.out _).mono ?_
    rintro e w' ⟨rfl, rfl⟩
    go_wp2_with fail
    refine (ct.out _).mono ?_
    rintro e w' ⟨rfl, rfl⟩
    go_wp2_with fail
    go_ret2
    exact ⟨.inl ⟨HN.out, rfl⟩, Below.refl _ _⟩
set_option maxRecDepth 100000 in
set_option maxHeartbeats 2000000 in
theorem refDoW2 (A : Option Addr) (n c B : Nat) (xs : List DV) (w : World) (h : Lst w B A n c xs) (hn : n ≤ 1000) (op : Int) (ht : takesNM op = 2) (t15 : (op == 15) = false) (t16 : (op == 16) = false) (t17 : (op == 17) = false) (t18 : (op == 18) = false) (t19 : (op == 19) = false) (t20 : (op == 20) = false) (har : arityN op = takesNM op) (hkd : kindN op = 1) (hin : ∀ v ∈ xs, In64 v.n) :
    Calls Try.prog 8 #[.int .i64 op, .slice A n c] w (IsDo op xs w) := by
  have HL : Hid (xs.length = n) := Lib.hid h.sl.1
  have ct : Hid (∀ w : World, Calls Try.prog 19 #[.int .i64 op] w fun e w' => e = .returned (.int .i64 (2)) ∧ w = w') := Lib.hid fun w => by have := ref_Takes_any op w; rw [ht] at this; exact this
  by_cases hlen : n = 2
  · subst hlen
    obtain ⟨a1, a2, rfl⟩ := list2 HL.out rfl
    obtain ⟨b, rfl, hbl, p0, p1, p2, p3, p4, p5⟩ := h.two'
    have hne : (((2 : Nat) : Int) != 2) = false := by decide
    by_cases hk : a1.k = 1
    · by_cases hk2 : a2.k = 1
      · have t1 : (a1.k != 1) = false := by simp [hk]
        have t2 : (a2.k != 1) = false := by simp [hk2]
        have HR : Hid ((twoM op a1.n a2.n).2 = true → OneR op [a1, a2] (some ⟨1, (twoM op a1.n a2.n).1, 0, 0⟩)) := Lib.hid fun h => OneR.w2 (op := op) a1 a2 ht rfl hk hk2 h
        have HR2 : Hid ((twoM op a1.n a2.n).2 = false → OneR op [a1, a2] none) := Lib.hid fun h => OneR.w2n (op := op) a1 a2 ht rfl hk hk2 h
        have hia := hin a1 (by simp)
        obtain ⟨an, han⟩ : ∃ x, a1.n = x := ⟨_, rfl⟩
        obtain ⟨bn, hbn⟩ : ∃ x, a2.n = x := ⟨_, rfl⟩
        rw [han] at p1 hia
        rw [hbn] at p4
        rw [han, hbn] at HR HR2
        have cp : Hid (∀ (n : Nat), Calls Try.prog 23 #[.int .i64 op, .int .i64 an, .int .i64 bn] (w.drewN n) fun e w' => e = .returned (.tuple #[.int .i64 (twoM op an bn).1, .bool (twoM op an bn).2]) ∧ ∃ m, w' = w.drewN m) := Lib.hid fun n => (ref_Two_any op an bn hia _).mono fun e w' ⟨he, m, hm⟩ => ⟨he, n + m, by rw [hm, World.drewN_drewN]⟩
        obtain ⟨r, hr⟩ : ∃ x, (twoM op an bn).1 = x := ⟨_, rfl⟩
        obtain ⟨o, ho⟩ : ∃ x, (twoM op an bn).2 = x := ⟨_, rfl⟩
        rw [hr] at cp HR
        rw [ho] at cp HR HR2
        clear h hn hk hk2 hbl p2 p5 han hbn hr ho har hkd ht hin hia
        generalize a1.k = k1 at *
        generalize a2.k = k2 at *
        go_enter Try.func8, Try.ntmps8
        go_wp2_with fail
        refine (ct.out _).mono ?_
        rintro e w' ⟨rfl, rfl⟩
        go_wp2_with fail
        refine (ct.out _).mono ?_
        rintro e w' ⟨rfl, rfl⟩
        go_wp2_with fail
        refine wp_loop_rounds 3 ?_
        rw [rounds_succ]
        go_wp2_with fail
        rw [rounds_succ]
        go_wp2_with fail
        rw [rounds_succ]
        go_wp2_with fail
        go_quiet (exact cp.out _)
        cases o
        · go_wp2_with fail
          go_ret2
          exact ⟨.inl ⟨HR2.out trivial, rfl⟩, ⟨rfl, rfl, rfl, Nat.le_refl _, fun _ _ => rfl⟩⟩
        · go_wp2_with fail
          go_ret2
          exact ⟨.inr ⟨⟨1, r, 0, 0⟩, _, HR.out trivial, rfl, slv_lit _ 1 r 0 0⟩, ((show Below w.heap.size w (w.drewN _) from ⟨rfl, rfl, rfl, Nat.le_refl _, fun _ _ => rfl⟩).alloc (Nat.le_refl _) _)⟩
      · have HN : Hid (OneR op [a1, a2] none) := Lib.hid (.no (fits_no HL.out (har.trans ht) hkd (kd_all rfl (fun hh => hk2 hh.2))))
        have t1 : (a1.k != 1) = false := by simp [hk]
        have t2 : (a2.k != 1) = true := by simp [hk2]
        clear h hn hk hk2 hbl p1 p2 p4 p5 har hkd ht hin
        generalize a1.k = k1 at *
        generalize a2.k = k2 at *
        go_enter Try.func8, Try.ntmps8
        go_wp2_with fail
        refine (ct.out _).mono ?_
        rintro e w' ⟨rfl, rfl⟩
        go_wp2_with fail
        refine (ct.out _).mono ?_
        rintro e w' ⟨rfl, rfl⟩
        go_wp2_with fail
        refine wp_loop_rounds 2 ?_
        rw [rounds_succ]
        go_wp2_with fail
        rw [rounds_succ]
        go_wp2_with fail
        go_ret2
        exact ⟨.inl ⟨HN.out, rfl⟩, Below.refl _ _⟩
    · have HN : Hid (OneR op [a1, a2] none) := Lib.hid (.no (fits_no HL.out (har.trans ht) hkd (kd_all rfl (fun hh => hk hh.1))))
      have t1 : (a1.k != 1) = true := by simp [hk]
      clear h hn hk hbl p1 p2 p3 p4 p5 har hkd ht hin
      generalize a1.k = k1 at *
      go_enter Try.func8, Try.ntmps8
      go_wp2_with fail
      refine (ct.out _).mono ?_
      rintro e w' ⟨rfl, rfl⟩
      go_wp2_with fail
      refine (ct.out _).mono ?_
      rintro e w' ⟨rfl, rfl⟩
      go_wp2_with fail
      refine wp_loop_rounds 1 ?_
      rw [rounds_succ]
      go_wp2_with fail
      go_ret2
      exact ⟨.inl ⟨HN.out, rfl⟩, Below.refl _ _⟩
  · have HN : Hid (OneR op xs none) := Lib.hid (.no (fits_no (m := 2) (t := 1) HL.out (har.trans ht) hkd (by rw [show (((n : Int)) == 2) = false by simp; omega]; rfl)))
    have hne : ((n : Int) != 2) = true := by simp; omega
    clear h hn hlen har hkd ht hin
    go_enter Try.func8, Try.ntmps8
    go_wp2_with fail
    refine (ct.out _).mono ?_
    rintro e w' ⟨rfl, rfl⟩
    go_wp2_with fail
    refine (ct.out _).mono ?_
    rintro e w' ⟨rfl, rfl⟩
    go_wp2_with fail
    go_ret2
    exact ⟨.inl ⟨HN.out, rfl⟩, Below.refl _ _⟩
set_option maxRecDepth 100000 in
theorem refDoW0 (A : Option Addr) (n c B : Nat) (xs : List DV) (w : World) (op : Int) (ht : takesNM op = 0) (t15 : (op == 15) = false) (t16 : (op == 16) = false) (t17 : (op == 17) = false) (t18 : (op == 18) = false) (t19 : (op == 19) = false) (t20 : (op == 20) = false) (har : arityN op = takesNM op) (hkd : kindN op = 1) :
    Calls Try.prog 8 #[.int .i64 op, .slice A n c] w (IsDo op xs w) := by
  have ct : Hid (∀ w : World, Calls Try.prog 19 #[.int .i64 op] w fun e w' => e = .returned (.int .i64 0) ∧ w = w') := Lib.hid fun w => by have := ref_Takes_any op w; rw [ht] at this; exact this
  have HN : Hid (OneR op xs none) := Lib.hid (.no (by unfold fitsB; rw [har, ht]; rfl))
  clear har hkd ht
  go_enter Try.func8, Try.ntmps8
  go_wp2_with fail
  refine (ct.out _).mono ?_
  rintro e w' ⟨rfl, rfl⟩
  go_wp2_with fail
  go_ret2
  exact ⟨.inl ⟨HN.out, rfl⟩, Below.refl _ _⟩
theorem refDo_any (op : Int) (A : Option Addr) (n c B : Nat) (xs : List DV) (w : World) (h : Lst w B A n c xs) (hn : n ≤ 1000) (hin : ∀ v ∈ xs, In64 v.n) :
    Calls Try.prog 8 #[.int .i64 op, .slice A n c] w (IsDo op xs w) := by
  rcases kd_eq op with (rfl | rfl | rfl) | (rfl | rfl) | rfl | ⟨h1, h2, h3, h4, h5, h6, h7, h8⟩
  · exact refDo16 A n c B xs w h hn
  · exact refDo17 A n c B xs w h hn
  · exact refDo18 A n c B xs w h hn
  · exact refDo19 A n c B xs w h hn
  · exact refDo20 A n c B xs w h hn
  · exact refDo15 A n c B xs w h hn
  · rcases takes_cases op with ht | ht | ht
    · exact refDoW0 A n c B xs w op ht h1 h2 h3 h4 h5 h6 h7 h8
    · exact refDoW1 A n c B xs w h hn op ht h1 h2 h3 h4 h5 h6 h7 h8
    · exact refDoW2 A n c B xs w h hn op ht h1 h2 h3 h4 h5 h6 h7 h8 hin
end Go.Proofs.Ytjalphlhooojoaa
