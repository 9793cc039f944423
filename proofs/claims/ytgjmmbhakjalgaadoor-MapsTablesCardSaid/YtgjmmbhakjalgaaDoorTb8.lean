/-
  Tables of sets: the walk of MapsTables.
-/
import Derived.Test.YtgjmmbhakjalgaaDoorTb2
import Derived.Test.YtgjmmbhakjalgaaDoorTb7
import Derived.Test.YtgjmmbhakjalgaaDoorMt0m
import Derived.OrdersHeld
namespace Go.Proofs.YtgjmmbhakjalgaaDoor
open Go.RowKit
set_option linter.unusedSimpArgs false
set_option linter.unusedVariables false
theorem wpAnyH_narrow {P : Program} {md : Region.Mode} {ops : Array Oper} {Q : Exit → Act → World → Prop} {S T : World → Prop} (hTS : ∀ w, T w → S w) : ∀ {fuel : Nat} {listed : Array Bool} {a : Act} {w : World}, wpAnyH P md ops Q T fuel listed a w → wpAnyH P md ops Q S fuel listed a w
  | 0, _, _, _, h => h
  | _ + 1, _, _, _, h => ⟨h.1, fun i hi => wpOp_mono (fun _ w' h' => ⟨hTS w' h'.1, wpAnyH_narrow hTS h'.2⟩) (h.2 i hi)⟩
theorem wpAnyH_two {P : Program} {ops : Array Oper} {Q : Exit → Act → World → Prop} {md : Region.Mode} {S : World → Prop} {i j fuel : Nat} {oi oj : Oper} {listed : Array Bool} {a : Act} {w : World}
    (hr : Region.ready md ops listed = [i, j]) (hi : ops[i]? = some oi) (hj : ops[j]? = some oj)
    (h : ∀ K' : Act → World → Prop, (∀ a w, S w ∧ wpAnyH P md ops Q S fuel (listed.setIfInBounds i true) a w → K' a w) → if Region.wanted oi (yielded ops a.tmps) = true then Oper.wp P oi a w K' Q else K' (a.put oi.dst undef) w)
    (k : ∀ K' : Act → World → Prop, (∀ a w, S w ∧ wpAnyH P md ops Q S fuel (listed.setIfInBounds j true) a w → K' a w) → if Region.wanted oj (yielded ops a.tmps) = true then Oper.wp P oj a w K' Q else K' (a.put oj.dst undef) w) :
    wpAnyH P md ops Q S (fuel + 1) listed a w :=
  wpAnyH_all hr (by simp) (fun x hx => by
    simp only [List.mem_cons, List.not_mem_nil, or_false] at hx
    rcases hx with rfl | rfl
    · exact wpOp_step hi h
    · exact wpOp_step hj k)
theorem lit_own (w : World) : (w.alloc (.cells #[.int .u8 1] 5)).ownsRow w.heap.size 5 1 (.slice (some ⟨w.heap.size, 0, none⟩) 1 1) 1 (rowB [1]) :=
  World.ownsRow_lit (base := w.heap.size) (e := 5) (size := 1) w #[.int .u8 1] 1 (Nat.le_refl _) (by unfold maxLen; omega) rfl
theorem conv_row {S : Nat → Prop} {W X : World} {base k c : Nat} {A : Option Addr} {l : List Nat} (h : W.ownsRow base 5 1 (.slice A k c) k (rowB l)) (hk : Kp S W X) (hS : ∀ j, (Value.slice A k c).ownBlock = some j → ¬ S j) (hb : ∀ b ∈ l, b < 256) : (convert 31 9 (.slice A k c)).run Tryd.prog X = .ok (.string (strB l)) X := by
  have h2 := hk.own h hS
  have hl : l.length = k := by have := h2.1; simpa [rowB] using this
  by_cases h0 : k = 0
  · subst h0
    have : l = [] := List.eq_nil_of_length_eq_zero hl
    subst this
    exact conv_zero X A c
  · subst hl
    obtain ⟨A2, c2, e, hA0, hA1⟩ := own_form h2
    simp only [Value.slice.injEq, true_and] at e
    obtain ⟨rfl, rfl⟩ := e
    cases A with
    | none => exact absurd (hA0 rfl) h0
    | some ad =>
      obtain ⟨g9, rfl, _, _⟩ := hA1 ad rfl
      exact conv_slb (slb_own h2 hb)
theorem cntM_len (xs : List W4) : (cntM xs).length ≤ xs.length := by
  have key : ∀ k, (cntM (xs.take k)).length ≤ k := by
    intro k
    induction k with
    | zero => exact Nat.le_refl _
    | succ k ih =>
      by_cases hk : k < xs.length
      · rw [← take_snoc' xs k xs[k] (List.getElem?_eq_getElem hk), cntM_snoc]
        unfold cntStep
        split
        · simp
        · rename_i p hp
          have : (cntM (xs.take k)) ≠ [] := fun e => by rw [e] at hp; cases hp
          have h1 := List.length_pos_iff.2 this
          split <;> simp [List.length_dropLast] <;> omega
      · rw [List.take_of_length_le (by omega)]
        rw [List.take_of_length_le (by omega)] at ih
        omega
  have := key xs.length
  rw [List.take_length] at this
  exact this
theorem putM_bytes {n : Nat} (hn : n < 18446744073709551616) : ∀ b ∈ putM n, b < 256 := putF_byte 9 _ (by rw [lim9]; exact hn)
theorem puts_bytes (xs : List W4) (hok : ∀ x ∈ xs, x.Ok) (hl : xs.length ≤ 1000) : ∀ b ∈ putsM (cntM xs), b < 256 := by
  intro b hb
  obtain ⟨p, hp, hb⟩ := List.mem_flatMap.1 hb
  have hm := cntM_mem xs xs.length p (by rw [List.take_length]; exact hp)
  have ho := hok _ hm.1
  unfold runB at hb
  simp only [List.mem_append] at hb
  rcases hb with (((hb | hb) | hb) | hb) | hb
  · exact putM_bytes (by omega) b hb
  · exact putM_bytes ho.h0 b hb
  · exact putM_bytes ho.h1 b hb
  · exact putM_bytes ho.h2 b hb
  · exact putM_bytes ho.h3 b hb
theorem eqW_refl (s : W4) : eqW s s = true := (eqW_iff s s).2 rfl
set_option maxRecDepth 100000 in
set_option maxHeartbeats 8000000 in
theorem mapsTables_walk (A : Option Addr) (n c : Nat) (xs : List W4) (many pc : Int) (w : World) (h : SlW w w.heap.size A n c xs) (hok : ∀ x ∈ xs, x.Ok) (hT : Tab w) (hw0 : 0 < w.heap.size) :
    Calls Tryd.prog 3 #[.slice A n c, .int .i64 many, .int .i64 pc] w fun e w' => e = .returned (.bool true) ∧ Below w.heap.size w w' := by
  have cl := Lib.hid maps_lives
  by_cases hn : 100 < n
  · have hn1 : (100 : Int) < (n : Int) := by omega
    clear h hok hT hw0
    go_enter Tryd.func3, Tryd.ntmps3
    go_wp2_with fail
    refine (cl.out w).mono ?_
    rintro e w' ⟨rfl, hb⟩
    go_wp2_with fail
    go_ret
    exact ⟨rfl, hb⟩
  · have hn' : n ≤ 100 := by omega
    have hn1 : ¬ (100 : Int) < (n : Int) := by omega
    have H := Lib.hid h
    have HOK := Lib.hid hok
    have HT := Lib.hid hT
    have HLN : Hid (xs.length = n) := Lib.hid h.1
    have HW0 := Lib.hid hw0
    have cM := Lib.hid (mMove_any A n c xs pc w h hok hn' hT hw0)
    have hguard := eq_guard
    have t0 : ((n : Int) != (n : Int)) = false := by simp
    clear h hok hT hw0
    go_enter Tryd.func3, Tryd.ntmps3
    go_wp2_with fail
    refine cM.out.mono ?_
    rintro e w1 ⟨A1, c1, rfl, hrow, hb1⟩
    have HROW := Lib.hid hrow
    have HB1 := Lib.hid hb1
    clear hrow hb1 cM
    go_wp2_with fail
    go_loopw [8] (fun i wr => ∃ (k : Nat), i = .int .i64 k ∧ k ≤ n ∧ Hid (Below w1.heap.size w1 wr)) (fun i _ => n - (intOf i).toNat)
    case atStart => exact ⟨0, rfl, Nat.zero_le _, Lib.hid (Below.refl _ _)⟩
    case round =>
      obtain ⟨k, rfl, hk, HB⟩ := hrel
      have HBW : Hid (Below w.heap.size w wr) := Lib.hid (HB1.out.trans (HB.out.mono HB1.out.size))
      by_cases hlt : k < n
      · obtain ⟨r, off, x, rfl, hr, hx, hc⟩ := H.out.get hlt
        obtain ⟨r1, s, rfl, hs, q0, q1, q2, q3⟩ := (HROW.out.on HB.out).at_ (by rw [List.length_map, HLN.out]) hlt
        rw [List.getElem?_map, hx] at hs
        injection hs with hs
        have hxo := HOK.out x (List.mem_of_getElem? hx)
        have hk0 : (0 : Int) ≤ (k : Int) := by omega
        have hkn : (k : Int) < (n : Int) := by omega
        have EQ : Hid (∀ W, Below wr.heap.size wr W → W.cell? ⟨r, off + k * 4, none⟩ = some (.int .u64 (x.a0 : Int)) ∧ W.cell? ⟨r, off + k * 4 + 1, none⟩ = some (.int .u64 (x.a1 : Int)) ∧ W.cell? ⟨r, off + k * 4 + 2, none⟩ = some (.int .u64 (x.a2 : Int)) ∧ W.cell? ⟨r, off + k * 4 + 3, none⟩ = some (.int .u64 (x.a3 : Int))) := Lib.hid fun W hW => hc W (bl_trans HBW.out HBW.out.size hW)
        have lt : ∀ {p : Addr} {v : Value}, wr.cell? p = some v → p.block < wr.heap.size := fun h => World.block_lt_of_cell? _ _ h
        have ES : Hid (∀ W, Below wr.heap.size wr W → W.cell? ⟨r1, k * 4, none⟩ = some (.int .u64 (s.a0 : Int)) ∧ W.cell? ⟨r1, k * 4 + 1, none⟩ = some (.int .u64 (s.a1 : Int)) ∧ W.cell? ⟨r1, k * 4 + 2, none⟩ = some (.int .u64 (s.a2 : Int)) ∧ W.cell? ⟨r1, k * 4 + 3, none⟩ = some (.int .u64 (s.a3 : Int))) := Lib.hid fun W hW => ⟨(hW.cell (lt q0)).trans q0, (hW.cell (lt q1)).trans q1, (hW.cell (lt q2)).trans q2, (hW.cell (lt q3)).trans q3⟩
        have cR : Hid (∀ W : World, Calls Tryd.prog 6 #[.agg #[.int .u64 (x.a0 : Int), .int .u64 (x.a1 : Int), .int .u64 (x.a2 : Int), .int .u64 (x.a3 : Int)], .int .i64 pc] W (IsW s W)) := Lib.hid fun W => by rw [← hs]; exact rmove_any x hxo pc W
        have heq : ∀ W, (Op.equalIn 10000 27 (.agg #[.int .u64 (s.a0 : Int), .int .u64 (s.a1 : Int), .int .u64 (s.a2 : Int), .int .u64 (s.a3 : Int)]) (.agg #[.int .u64 (s.a0 : Int), .int .u64 (s.a1 : Int), .int .u64 (s.a2 : Int), .int .u64 (s.a3 : Int)])).run Tryd.prog W = .ok true W := fun W => by
          have := eq_arr 9998 s.a0 s.a1 s.a2 s.a3 s.a0 s.a1 s.a2 s.a3 W
          simpa using this
        clear hs hx hxo hc hr q0 q1 q2 q3 lt
        generalize x.a0 = x0 at *
        generalize x.a1 = x1 at *
        generalize x.a2 = x2 at *
        generalize x.a3 = x3 at *
        go_wp2_with fail
        refine wp_region_held (S := fun W => Below wr.heap.size wr W) (by kernel_rfl) ?_
        change wpAnyH _ _ _ _ _ _ _ _ (World.drew _)

        have hS0 : Below wr.heap.size wr wr.drew := (Below.refl _ _).drew
        refine wpAnyH_take (i := 0) (v := .slice (some ⟨r1, 0, none⟩) n c1) rfl (by kernel_rfl) (by kernel_rfl) (by kernel_rfl) (fun _ _ _ h => h) (Or.inl ⟨by rfl, by intro W hW; go_simp; try (first | (with_reducible rfl) | omega)⟩) hS0 ?_
        refine wpAnyH_take (i := 1) (v := .int .i64 (k : Int)) rfl (by kernel_rfl) (by kernel_rfl) (by kernel_rfl) (fun _ _ _ h => h) (Or.inl ⟨by rfl, by intro W hW; go_simp; try (first | (with_reducible rfl) | omega)⟩) hS0 ?_
        refine wpAnyH_take (i := 2) (v := .pointer (some ⟨r1, k * 4, none⟩)) rfl (by kernel_rfl) (by kernel_rfl) (by kernel_rfl) (fun _ _ _ h => h) (Or.inl ⟨by rfl, by intro W hW; go_simp; try (first | (with_reducible rfl) | omega)⟩) hS0 ?_
        refine wpAnyH_take (i := 3) (v := .agg #[.int .u64 (s.a0 : Int), .int .u64 (s.a1 : Int), .int .u64 (s.a2 : Int), .int .u64 (s.a3 : Int)]) rfl (by kernel_rfl) (by kernel_rfl) (by kernel_rfl) (fun _ _ _ h => h) (Or.inl ⟨by rfl, by intro W hW; obtain ⟨q0, q1, q2, q3⟩ := ES.out W hW; go_simp; try (first | (with_reducible rfl) | omega)⟩) hS0 ?_
        refine wpAnyH_take (i := 4) (v := .slice (some ⟨r, off, none⟩) n c) rfl (by kernel_rfl) (by kernel_rfl) (by kernel_rfl) (fun _ _ _ h => h) (Or.inl ⟨by rfl, by intro W hW; go_simp; try (first | (with_reducible rfl) | omega)⟩) hS0 ?_
        refine wpAnyH_take (i := 5) (v := .int .i64 (k : Int)) rfl (by kernel_rfl) (by kernel_rfl) (by kernel_rfl) (fun _ _ _ h => h) (Or.inl ⟨by rfl, by intro W hW; go_simp; try (first | (with_reducible rfl) | omega)⟩) hS0 ?_
        refine wpAnyH_take (i := 6) (v := .pointer (some ⟨r, off + k * 4, none⟩)) rfl (by kernel_rfl) (by kernel_rfl) (by kernel_rfl) (fun _ _ _ h => h) (Or.inl ⟨by rfl, by intro W hW; go_simp; try (first | (with_reducible rfl) | omega)⟩) hS0 ?_
        refine wpAnyH_take (i := 7) (v := .agg #[.int .u64 (x0 : Int), .int .u64 (x1 : Int), .int .u64 (x2 : Int), .int .u64 (x3 : Int)]) rfl (by kernel_rfl) (by kernel_rfl) (by kernel_rfl) (fun _ _ _ h => h) (Or.inl ⟨by rfl, by intro W hW; obtain ⟨q0, q1, q2, q3⟩ := EQ.out W hW; go_simp; try (first | (with_reducible rfl) | omega)⟩) hS0 ?_
        refine wpAnyH_take (i := 8) (v := .int .i64 pc) rfl (by kernel_rfl) (by kernel_rfl) (by kernel_rfl) (fun _ _ _ h => h) (Or.inl ⟨by rfl, by intro W hW; go_simp; try (first | (with_reducible rfl) | omega)⟩) hS0 ?_
        refine wpAnyH_one (i := 9) (by kernel_rfl) rfl (fun K hK => ?_)
        go_simp
        refine (cR.out _).mono ?_
        rintro e w4 ⟨rfl, hb4⟩
        have hS4 : Below wr.heap.size wr w4 := bl_trans hS0 hS0.size hb4
        go_simp
        refine hK _ _ ⟨hS4, ?_⟩; clear hK K
        refine wpAnyH_one (i := 10) (by kernel_rfl) rfl (fun K hK => ?_)
        go_simp
        refine hK _ _ ⟨hS4, ?_⟩; clear hK K
        refine wpAnyH_done (by kernel_rfl) ?_ _
        have HB4 : Hid (Below w1.heap.size w1 w4) := Lib.hid (bl_trans HB.out HB.out.size hS4)
        clear hS4 hb4 hS0 EQ ES cR heq
        go_wp2_with fail
        go_roundw
        case rel => exact ⟨k + 1, by go_num, by omega, HB4⟩
        case measure => simp [intOf]; omega

      · obtain rfl : k = n := by omega
        go_wp2_with fail
        have tb : ∀ b : Bool, (b == b) = true := by simp
        obtain ⟨tR, hR⟩ : ∃ t, rightM xs many = t := ⟨_, rfl⟩
        obtain ⟨s, hsA⟩ : ∃ s, atM xs pc = s := ⟨_, rfl⟩
        have cA : Hid (∀ W : World, Below w.heap.size w W → Calls Tryd.prog 7 #[.slice A k c, .int .i64 many] W fun e w' => e = .returned (.bool tR) ∧ Below W.heap.size W w') := Lib.hid fun W hW => by rw [← hR]; exact mRight_any A k c xs many W (H.out.on hW) hn'
        have cB : Hid (∀ W : World, Below w.heap.size w W → Calls Tryd.prog 8 #[.slice A k c, .int .i64 many] W fun e w' => e = .returned (.bool tR) ∧ Below W.heap.size W w') := Lib.hid fun W hW => by rw [← hR]; exact rRight_any A k c xs many W (H.out.on hW) hn'
        have cC : Hid (∀ W : World, Below w.heap.size w W → Calls Tryd.prog 9 #[.slice A k c, .int .i64 pc] W (IsW s W)) := Lib.hid fun W hW => by rw [← hsA]; exact mAt_any A k c xs pc W (H.out.on hW)
        have cD : Hid (∀ W : World, Below w.heap.size w W → Calls Tryd.prog 10 #[.slice A k c, .int .i64 pc] W (IsW s W)) := Lib.hid fun W hW => by rw [← hsA]; exact rAt_any A k c xs pc W (H.out.on hW)
        have heq : ∀ W, (Op.equalIn 10000 27 (.agg #[.int .u64 (s.a0 : Int), .int .u64 (s.a1 : Int), .int .u64 (s.a2 : Int), .int .u64 (s.a3 : Int)]) (.agg #[.int .u64 (s.a0 : Int), .int .u64 (s.a1 : Int), .int .u64 (s.a2 : Int), .int .u64 (s.a3 : Int)])).run Tryd.prog W = .ok true W := fun W => by
          have := eq_arr 9998 s.a0 s.a1 s.a2 s.a3 s.a0 s.a1 s.a2 s.a3 W
          simpa using this
        have tR2 := tb tR
        have HBY2 : Hid (∀ b ∈ putsM (cntM xs), b < 256) := Lib.hid (puts_bytes xs HOK.out (by have := HLN.out; omega))
        have HBY1 : Hid (∀ b ∈ [1] ++ putsM (cntM xs), b < 256) := Lib.hid fun b hb => (List.mem_append.1 hb).elim (fun h => by simp at h; omega) (HBY2.out b)
        have hzs : (strB [1]).size + (strB (putsM (cntM xs))).size ≤ 9223372036854775807 := by
          have h1 : (strB [1]).size = 1 := rfl
          have h2 : (strB (putsM (cntM xs))).size = (putsM (cntM xs)).length := by simp [strB, ByteArray.size]
          have h3 := putsM_len (cntM xs)
          have h4 := cntM_len xs
          have h5 := HLN.out
          omega
        obtain ⟨s1, hs1⟩ : ∃ t, Hid (strB [1] = t) := ⟨_, Lib.hid rfl⟩
        obtain ⟨s2, hs2⟩ : ∃ t, Hid (strB (putsM (cntM xs)) = t) := ⟨_, Lib.hid rfl⟩
        rw [hs1.out, hs2.out] at hzs
        have hzs2 : ¬ 9223372036854775807 < s1.size + s2.size := by omega
        clear hR hsA HROW tb
        refine wp_region_held (S := fun W => Kp (fun _ => False) wr W) (by kernel_rfl) ?_
        change wpAnyH _ _ _ _ _ _ _ _ (World.drew _)
        have hS0 : Kp (fun _ => False) wr wr.drew := (Kp.refl _ _).drew
        have G0 : Hid (Below w.heap.size w wr.drew) := Lib.hid HBW.out.drew
        refine wpAnyH_take (i := 0) (v := .slice A k c) rfl (by kernel_rfl) (by kernel_rfl) (by kernel_rfl) (fun _ _ _ h => h) (Or.inl ⟨by rfl, by intro W hW; go_simp; try (first | (with_reducible rfl) | omega)⟩) hS0 ?_
        refine wpAnyH_take (i := 1) (v := .int .i64 many) rfl (by kernel_rfl) (by kernel_rfl) (by kernel_rfl) (fun _ _ _ h => h) (Or.inl ⟨by rfl, by intro W hW; go_simp; try (first | (with_reducible rfl) | omega)⟩) hS0 ?_
        refine wpAnyH_take (i := 3) (v := .slice A k c) rfl (by kernel_rfl) (by kernel_rfl) (by kernel_rfl) (fun _ _ _ h => h) (Or.inl ⟨by rfl, by intro W hW; go_simp; try (first | (with_reducible rfl) | omega)⟩) hS0 ?_
        refine wpAnyH_take (i := 4) (v := .int .i64 many) rfl (by kernel_rfl) (by kernel_rfl) (by kernel_rfl) (fun _ _ _ h => h) (Or.inl ⟨by rfl, by intro W hW; go_simp; try (first | (with_reducible rfl) | omega)⟩) hS0 ?_
        refine wpAnyH_one (i := 2) (by kernel_rfl) rfl (fun K hK => ?_)
        go_simp
        refine (cA.out _ G0.out).mono ?_
        rintro e w2 ⟨rfl, hb⟩
        have hS2 := hS0.ofBelow hb
        have G2 : Hid (Below w.heap.size w w2) := Lib.hid (bl_trans G0.out G0.out.size hb)
        clear hb
        go_simp
        refine hK _ _ ⟨hS2, ?_⟩; clear hK K
        refine wpAnyH_one (i := 5) (by kernel_rfl) rfl (fun K hK => ?_)
        go_simp
        refine (cB.out _ G2.out).mono ?_
        rintro e w5 ⟨rfl, hb⟩
        have hS5 := hS2.ofBelow hb
        have G5 : Hid (Below w.heap.size w w5) := Lib.hid (bl_trans G2.out G2.out.size hb)
        clear hb
        go_simp
        refine hK _ _ ⟨hS5, ?_⟩; clear hK K
        refine wpAnyH_one (i := 6) (by kernel_rfl) rfl (fun K hK => ?_)
        go_simp
        refine hK _ _ ⟨hS5, ?_⟩; clear hK K
        refine wpAnyH_one (i := 7) (by kernel_rfl) rfl (fun K hK => ?_)
        go_simp
        refine hK _ _ ⟨hS5, ?_⟩; clear hK K
        refine wpAnyH_take (i := 8) (v := .slice A k c) rfl (by kernel_rfl) (by kernel_rfl) (by kernel_rfl) (fun _ _ _ h => h) (Or.inl ⟨by rfl, by intro W hW; go_simp; try (first | (with_reducible rfl) | omega)⟩) hS5 ?_
        refine wpAnyH_take (i := 9) (v := .int .i64 pc) rfl (by kernel_rfl) (by kernel_rfl) (by kernel_rfl) (fun _ _ _ h => h) (Or.inl ⟨by rfl, by intro W hW; go_simp; try (first | (with_reducible rfl) | omega)⟩) hS5 ?_
        refine wpAnyH_take (i := 11) (v := .slice A k c) rfl (by kernel_rfl) (by kernel_rfl) (by kernel_rfl) (fun _ _ _ h => h) (Or.inl ⟨by rfl, by intro W hW; go_simp; try (first | (with_reducible rfl) | omega)⟩) hS5 ?_
        refine wpAnyH_take (i := 12) (v := .int .i64 pc) rfl (by kernel_rfl) (by kernel_rfl) (by kernel_rfl) (fun _ _ _ h => h) (Or.inl ⟨by rfl, by intro W hW; go_simp; try (first | (with_reducible rfl) | omega)⟩) hS5 ?_
        refine wpAnyH_one (i := 10) (by kernel_rfl) rfl (fun K hK => ?_)
        go_simp
        refine (cC.out _ G5.out).mono ?_
        rintro e w10 ⟨rfl, hb⟩
        have hS10 := hS5.ofBelow hb
        have G10 : Hid (Below w.heap.size w w10) := Lib.hid (bl_trans G5.out G5.out.size hb)
        clear hb
        go_simp
        refine hK _ _ ⟨hS10, ?_⟩; clear hK K
        refine wpAnyH_one (i := 13) (by kernel_rfl) rfl (fun K hK => ?_)
        go_simp
        refine (cD.out _ G10.out).mono ?_
        rintro e w13 ⟨rfl, hb⟩
        have hS13 := hS10.ofBelow hb
        have G13 : Hid (Below w.heap.size w w13) := Lib.hid (bl_trans G10.out G10.out.size hb)
        clear hb
        go_simp
        refine hK _ _ ⟨hS13, ?_⟩; clear hK K
        refine wpAnyH_one (i := 14) (by kernel_rfl) rfl (fun K hK => ?_)
        go_simp
        refine hK _ _ ⟨hS13, ?_⟩; clear hK K
        refine wpAnyH_one (i := 15) (by kernel_rfl) rfl (fun K hK => ?_)
        go_simp
        refine hK _ _ ⟨hS13, ?_⟩; clear hK K
        refine wpAnyH_one (i := 16) (by kernel_rfl) rfl (fun K hK => ?_)
        go_simp
        refine hK _ _ ⟨hS13, ?_⟩; clear hK K
        refine wpAnyH_take (i := 18) (v := .slice A k c) rfl (by kernel_rfl) (by kernel_rfl) (by kernel_rfl) (fun _ _ _ h => h) (Or.inl ⟨by rfl, by intro W hW; go_simp; try (first | (with_reducible rfl) | omega)⟩) hS13 ?_
        refine wpAnyH_take (i := 23) (v := .slice A k c) rfl (by kernel_rfl) (by kernel_rfl) (by kernel_rfl) (fun _ _ _ h => h) (Or.inl ⟨by rfl, by intro W hW; go_simp; try (first | (with_reducible rfl) | omega)⟩) hS13 ?_
        clear heq cA cB cC cD tR2
        refine wpAnyH_two (i := 17) (j := 21) (by kernel_rfl) rfl rfl (fun K hK => ?_) (fun K hK => ?_)
        · go_simp
          obtain ⟨wa, hwa⟩ : ∃ X, World.alloc w13 (.cells #[.int .u8 1] 5) = X := ⟨_, rfl⟩
          have hwb : Below (World.heap w13).size w13 wa := by rw [← hwa]; exact bl_one _
          obtain ⟨b17, hb17⟩ : ∃ b, (World.heap w13).size = b := ⟨_, rfl⟩
          have O17 : Hid (wa.ownsRow b17 5 1 (.slice (some ⟨b17, 0, none⟩) 1 1) 1 (rowB [1])) := Lib.hid (by rw [← hwa, ← hb17]; exact lit_own _)
          have hlt17 : b17 < wa.heap.size := by rw [← hwa, ← hb17]; simp
          rw [hb17] at hwb
          rw [hwa, hb17]
          have h17 := hS13.ofBelow (by rw [hb17]; exact hwb)
          have G17 : Hid (Below w.heap.size w wa) := Lib.hid (bl_trans G13.out G13.out.size (by rw [hb17]; exact hwb))
          have L17 : Hid (w.heap.size ≤ b17) := Lib.hid (by rw [← hb17]; exact G13.out.size)
          have N17 : Hid (∀ u : World, Kp (fun _ => False) u w13 → u.heap.size ≤ b17) := Lib.hid fun u hu => by rw [← hb17]; exact hu.size
          refine hK _ _ ⟨h17, ?_⟩; clear hK K hwa hwb hb17
          refine wpAnyH_two (i := 19) (j := 21) (by kernel_rfl) rfl rfl (fun K hK => ?_) (fun K hK => ?_)
          · go_simp
            refine (mPut_any b17 1 1 (some ⟨b17, 0, none⟩) [1] A k c xs wa (H.out.on G17.out) HOK.out hn' (by omega) (by omega) O17.out).mono ?_
            rintro e w19 ⟨A9, k9, c9, rfl, hk9, hl9, hown9, hkp9⟩
            have h19 := h17.trans' hkp9 (U := fun j => False) (fun j hj hs => hs.elim id fun hs => by injection hs with hs; injection hs with hs; have := N17.out _ hS13; omega)
            have hBl : Below w.heap.size w w19 := G17.out.trans (hkp9.below G17.out.size fun j hj => by injection hj with hj; injection hj with hj; have := L17.out; omega)
            have G19 := Lib.hid hBl
            have e20 : Hid (∀ X, Kp (fun _ => False) w19 X → (convert 31 9 (.slice A9 k9 c9)).run Tryd.prog X = .ok (.string (s1 ++ s2)) X) := Lib.hid fun X hX => by rw [← hs1.out, ← hs2.out, ← strB_app]; exact conv_row hown9 hX (fun _ _ hs => hs) HBY1.out
            clear hk9 hl9 hown9 hkp9 hBl
            go_simp
            refine hK _ _ ⟨h19, ?_⟩; clear hK K
            refine wpAnyH_narrow (T := fun X => Kp (fun _ => False) w19 X) (fun X hX => h19.trans' hX fun j hj hs => hs.elim id fun hs => hs.elim) ?_
            have k19 : Kp (fun _ => False) w19 w19 := Kp.refl _ _
            refine wpAnyH_take (i := 20) (v := .string (s1 ++ s2)) rfl (by kernel_rfl) (by kernel_rfl) (by kernel_rfl) (fun _ _ _ h => h) (Or.inl ⟨by rfl, by intro W hW; have e9 := e20.out W hW; go_simp; try (first | (with_reducible rfl) | omega)⟩) k19 ?_
            refine wpAnyH_two (i := 21) (j := 24) (by kernel_rfl) rfl rfl (fun K hK => ?_) (fun K hK => ?_)
            · go_simp
              obtain ⟨wb, hwb⟩ : ∃ X, World.alloc w19 (.cells #[.int .u8 1] 5) = X := ⟨_, rfl⟩
              have hbb : Below (World.heap w19).size w19 wb := by rw [← hwb]; exact bl_one _
              obtain ⟨b21, hb21⟩ : ∃ b, (World.heap w19).size = b := ⟨_, rfl⟩
              have O21 : wb.ownsRow b21 5 1 (.slice (some ⟨b21, 0, none⟩) 1 1) 1 (rowB [1]) := by rw [← hwb, ← hb21]; exact lit_own _
              rw [hwb, hb21]
              have h21 := k19.ofBelow hbb
              have G21 : Hid (Below w.heap.size w wb) := Lib.hid (bl_trans G19.out G19.out.size hbb)
              refine hK _ _ ⟨h21, ?_⟩; clear hK K
              refine wpAnyH_narrow (T := fun X => Kp (fun _ => False) wb X) (fun X hX => h21.trans hX) ?_
              have e22 : Hid (∀ X, Kp (fun _ => False) wb X → (convert 31 9 (.slice (some ⟨b21, 0, none⟩) 1 1)).run Tryd.prog X = .ok (.string s1) X) := Lib.hid fun X hX => by rw [← hs1.out]; exact conv_row O21 hX (fun j _ hs => hs) (by simp)
              have k21 : Kp (fun _ => False) wb wb := Kp.refl _ _
              clear O21 hwb hbb hb21
              refine wpAnyH_take (i := 22) (v := .string s1) rfl (by kernel_rfl) (by kernel_rfl) (by kernel_rfl) (fun _ _ _ h => h) (Or.inl ⟨by rfl, by intro W hW; have e9 := e22.out W hW; go_simp; try (first | (with_reducible rfl) | omega)⟩) k21 ?_
              refine wpAnyH_one (i := 24) (by kernel_rfl) rfl (fun K hK => ?_)
              go_simp
              refine (rPut_any A k c xs wb (H.out.on G21.out) HOK.out hn').mono ?_
              rintro e w24 ⟨A4, k4, c4, rfl, hk4, hl4, hown4, hb4⟩
              have h24 := k21.ofBelow hb4
              have G24 : Hid (Below w.heap.size w w24) := Lib.hid (bl_trans G21.out G21.out.size hb4)
              have e25 : Hid (∀ X, Kp (fun _ => False) w24 X → (convert 31 9 (.slice A4 k4 c4)).run Tryd.prog X = .ok (.string s2) X) := Lib.hid fun X hX => by rw [← hs2.out]; exact conv_row hown4 hX (fun _ _ hs => hs) HBY2.out
              clear hk4 hl4 hown4 hb4
              go_simp
              refine hK _ _ ⟨h24, ?_⟩; clear hK K
              refine wpAnyH_narrow (T := fun X => Kp (fun _ => False) w24 X) (fun X hX => h24.trans hX) ?_
              have k24 : Kp (fun _ => False) w24 w24 := Kp.refl _ _
              refine wpAnyH_take (i := 25) (v := .string s2) rfl (by kernel_rfl) (by kernel_rfl) (by kernel_rfl) (fun _ _ _ h => h) (Or.inl ⟨by rfl, by intro W hW; have e9 := e25.out W hW; go_simp; try (first | (with_reducible rfl) | omega)⟩) k24 ?_
              refine wpAnyH_one (i := 26) (by kernel_rfl) rfl (fun K hK => ?_)
              go_simp
              refine hK _ _ ⟨k24, ?_⟩; clear hK K
              refine wpAnyH_one (i := 27) (by kernel_rfl) rfl (fun K hK => ?_)
              go_simp
              refine hK _ _ ⟨k24, ?_⟩; clear hK K
              refine wpAnyH_one (i := 28) (by kernel_rfl) rfl (fun K hK => ?_)
              go_simp
              refine hK _ _ ⟨k24, ?_⟩; clear hK K
              refine wpAnyH_one (i := 29) (by kernel_rfl) rfl (fun K hK => ?_)
              go_simp
              refine hK _ _ ⟨k24, ?_⟩; clear hK K
              refine wpAnyH_one (i := 30) (by kernel_rfl) rfl (fun K hK => ?_)
              go_simp
              refine (cl.out _).mono ?_
              rintro e w30 ⟨rfl, hb30⟩
              have h30 := k24.ofBelow hb30
              have G30 : Hid (Below w.heap.size w w30) := Lib.hid (bl_trans G24.out G24.out.size hb30)
              go_simp
              refine hK _ _ ⟨h30, ?_⟩; clear hK K
              refine wpAnyH_one (i := 31) (by kernel_rfl) rfl (fun K hK => ?_)
              go_simp
              refine hK _ _ ⟨h30, ?_⟩; clear hK K
              refine wpAnyH_one (i := 32) (by kernel_rfl) rfl (fun K hK => ?_)
              go_simp
              refine hK _ _ ⟨h30, ?_⟩; clear hK K
              refine wpAnyH_done (by kernel_rfl) ?_ _
              go_simp
              go_wp2_with fail
              go_ret
              exact ⟨rfl, G30.out⟩
            · go_simp
              refine (rPut_any A k c xs w19 (H.out.on G19.out) HOK.out hn').mono ?_
              rintro e w24 ⟨A4, k4, c4, rfl, hk4, hl4, hown4, hb4⟩
              have h24 := k19.ofBelow hb4
              have G24 : Hid (Below w.heap.size w w24) := Lib.hid (bl_trans G19.out G19.out.size hb4)
              have e25 : Hid (∀ X, Kp (fun _ => False) w24 X → (convert 31 9 (.slice A4 k4 c4)).run Tryd.prog X = .ok (.string s2) X) := Lib.hid fun X hX => by rw [← hs2.out]; exact conv_row hown4 hX (fun _ _ hs => hs) HBY2.out
              clear hk4 hl4 hown4 hb4
              go_simp
              refine hK _ _ ⟨h24, ?_⟩; clear hK K
              refine wpAnyH_narrow (T := fun X => Kp (fun _ => False) w24 X) (fun X hX => h24.trans hX) ?_
              have k24 : Kp (fun _ => False) w24 w24 := Kp.refl _ _
              refine wpAnyH_take (i := 25) (v := .string s2) rfl (by kernel_rfl) (by kernel_rfl) (by kernel_rfl) (fun _ _ _ h => h) (Or.inl ⟨by rfl, by intro W hW; have e9 := e25.out W hW; go_simp; try (first | (with_reducible rfl) | omega)⟩) k24 ?_
              refine wpAnyH_one (i := 21) (by kernel_rfl) rfl (fun K hK => ?_)
              go_simp
              obtain ⟨wb, hwb⟩ : ∃ X, World.alloc w24 (.cells #[.int .u8 1] 5) = X := ⟨_, rfl⟩
              have hbb : Below (World.heap w24).size w24 wb := by rw [← hwb]; exact bl_one _
              obtain ⟨b21, hb21⟩ : ∃ b, (World.heap w24).size = b := ⟨_, rfl⟩
              have O21 : wb.ownsRow b21 5 1 (.slice (some ⟨b21, 0, none⟩) 1 1) 1 (rowB [1]) := by rw [← hwb, ← hb21]; exact lit_own _
              rw [hwb, hb21]
              have h21 := k24.ofBelow hbb
              have G21 : Hid (Below w.heap.size w wb) := Lib.hid (bl_trans G24.out G24.out.size hbb)
              refine hK _ _ ⟨h21, ?_⟩; clear hK K
              refine wpAnyH_narrow (T := fun X => Kp (fun _ => False) wb X) (fun X hX => h21.trans hX) ?_
              have e22 : Hid (∀ X, Kp (fun _ => False) wb X → (convert 31 9 (.slice (some ⟨b21, 0, none⟩) 1 1)).run Tryd.prog X = .ok (.string s1) X) := Lib.hid fun X hX => by rw [← hs1.out]; exact conv_row O21 hX (fun j _ hs => hs) (by simp)
              have k21 : Kp (fun _ => False) wb wb := Kp.refl _ _
              clear O21 hwb hbb hb21
              refine wpAnyH_take (i := 22) (v := .string s1) rfl (by kernel_rfl) (by kernel_rfl) (by kernel_rfl) (fun _ _ _ h => h) (Or.inl ⟨by rfl, by intro W hW; have e9 := e22.out W hW; go_simp; try (first | (with_reducible rfl) | omega)⟩) k21 ?_
              refine wpAnyH_one (i := 26) (by kernel_rfl) rfl (fun K hK => ?_)
              go_simp
              refine hK _ _ ⟨k21, ?_⟩; clear hK K
              refine wpAnyH_one (i := 27) (by kernel_rfl) rfl (fun K hK => ?_)
              go_simp
              refine hK _ _ ⟨k21, ?_⟩; clear hK K
              refine wpAnyH_one (i := 28) (by kernel_rfl) rfl (fun K hK => ?_)
              go_simp
              refine hK _ _ ⟨k21, ?_⟩; clear hK K
              refine wpAnyH_one (i := 29) (by kernel_rfl) rfl (fun K hK => ?_)
              go_simp
              refine hK _ _ ⟨k21, ?_⟩; clear hK K
              refine wpAnyH_one (i := 30) (by kernel_rfl) rfl (fun K hK => ?_)
              go_simp
              refine (cl.out _).mono ?_
              rintro e w30 ⟨rfl, hb30⟩
              have h30 := k21.ofBelow hb30
              have G30 : Hid (Below w.heap.size w w30) := Lib.hid (bl_trans G21.out G21.out.size hb30)
              go_simp
              refine hK _ _ ⟨h30, ?_⟩; clear hK K
              refine wpAnyH_one (i := 31) (by kernel_rfl) rfl (fun K hK => ?_)
              go_simp
              refine hK _ _ ⟨h30, ?_⟩; clear hK K
              refine wpAnyH_one (i := 32) (by kernel_rfl) rfl (fun K hK => ?_)
              go_simp
              refine hK _ _ ⟨h30, ?_⟩; clear hK K
              refine wpAnyH_done (by kernel_rfl) ?_ _
              go_simp
              go_wp2_with fail
              go_ret
              exact ⟨rfl, G30.out⟩
          · go_simp
            obtain ⟨wb, hwb⟩ : ∃ X, World.alloc wa (.cells #[.int .u8 1] 5) = X := ⟨_, rfl⟩
            have hbb : Below (World.heap wa).size wa wb := by rw [← hwb]; exact bl_one _
            obtain ⟨b21, hb21⟩ : ∃ b, (World.heap wa).size = b := ⟨_, rfl⟩
            have O21 : wb.ownsRow b21 5 1 (.slice (some ⟨b21, 0, none⟩) 1 1) 1 (rowB [1]) := by rw [← hwb, ← hb21]; exact lit_own _
            rw [hwb, hb21]
            have h21 := h17.ofBelow hbb
            have G21 : Hid (Below w.heap.size w wb) := Lib.hid (bl_trans G17.out G17.out.size hbb)
            have O17b : Hid (wb.ownsRow b17 5 1 (.slice (some ⟨b17, 0, none⟩) 1 1) 1 (rowB [1])) := Lib.hid (own_keep O17.out hbb)
            have hne : b21 ≠ b17 := by omega
            have hlt21 : b17 < wb.heap.size := by have := hbb.size; omega
            have N21 := N17
            refine hK _ _ ⟨h21, ?_⟩; clear hK K
            refine wpAnyH_narrow (T := fun X => Kp (fun j => j = b17) wb X) (fun X hX => h21.trans' hX fun j hj hs => hs.elim id fun hs => by have hs' : j = b17 := hs; have := N17.out _ hS13; omega) ?_
            have e22 : Hid (∀ X, Kp (fun j => j = b17) wb X → (convert 31 9 (.slice (some ⟨b21, 0, none⟩) 1 1)).run Tryd.prog X = .ok (.string s1) X) := Lib.hid fun X hX => by rw [← hs1.out]; exact conv_row O21 hX (fun j hj hs => by simp [Value.ownBlock] at hj; exact hne (hj.trans hs)) (by simp)
            have k21 : Kp (fun j => j = b17) wb wb := Kp.refl _ _
            clear O21 hwb hbb hb21
            refine wpAnyH_take (i := 22) (v := .string s1) rfl (by kernel_rfl) (by kernel_rfl) (by kernel_rfl) (fun _ _ _ h => h) (Or.inl ⟨by rfl, by intro W hW; have e9 := e22.out W hW; go_simp; try (first | (with_reducible rfl) | omega)⟩) k21 ?_
            refine wpAnyH_one (i := 19) (by kernel_rfl) rfl (fun K hK => ?_)
            go_simp
            refine (mPut_any b17 1 1 (some ⟨b17, 0, none⟩) [1] A k c xs wb (H.out.on G21.out) HOK.out hn' (by omega) (by omega) O17b.out).mono ?_
            rintro e w19 ⟨A9, k9, c9, rfl, hk9, hl9, hown9, hkp9⟩
            have h19 := k21.trans' hkp9 (U := fun j => j = b17) (fun j hj hs => hs.elim id fun hs => by injection hs with hs; injection hs with hs; exact hs.symm)
            have hBl : Below w.heap.size w w19 := G21.out.trans (hkp9.below G21.out.size fun j hj => by injection hj with hj; injection hj with hj; have := L17.out; omega)
            have G19 := Lib.hid hBl
            have e20 : Hid (∀ X, Kp (fun _ => False) w19 X → (convert 31 9 (.slice A9 k9 c9)).run Tryd.prog X = .ok (.string (s1 ++ s2)) X) := Lib.hid fun X hX => by rw [← hs1.out, ← hs2.out, ← strB_app]; exact conv_row hown9 hX (fun _ _ hs => hs) HBY1.out
            clear hk9 hl9 hown9 hkp9 hBl
            go_simp
            refine hK _ _ ⟨h19, ?_⟩; clear hK K
            refine wpAnyH_narrow (T := fun X => Kp (fun _ => False) w19 X) (fun X hX => h19.trans' hX fun j hj hs => hs.elim id fun hs => hs.elim) ?_
            have k19 : Kp (fun _ => False) w19 w19 := Kp.refl _ _
            refine wpAnyH_take (i := 20) (v := .string (s1 ++ s2)) rfl (by kernel_rfl) (by kernel_rfl) (by kernel_rfl) (fun _ _ _ h => h) (Or.inl ⟨by rfl, by intro W hW; have e9 := e20.out W hW; go_simp; try (first | (with_reducible rfl) | omega)⟩) k19 ?_
            refine wpAnyH_one (i := 24) (by kernel_rfl) rfl (fun K hK => ?_)
            go_simp
            refine (rPut_any A k c xs w19 (H.out.on G19.out) HOK.out hn').mono ?_
            rintro e w24 ⟨A4, k4, c4, rfl, hk4, hl4, hown4, hb4⟩
            have h24 := k19.ofBelow hb4
            have G24 : Hid (Below w.heap.size w w24) := Lib.hid (bl_trans G19.out G19.out.size hb4)
            have e25 : Hid (∀ X, Kp (fun _ => False) w24 X → (convert 31 9 (.slice A4 k4 c4)).run Tryd.prog X = .ok (.string s2) X) := Lib.hid fun X hX => by rw [← hs2.out]; exact conv_row hown4 hX (fun _ _ hs => hs) HBY2.out
            clear hk4 hl4 hown4 hb4
            go_simp
            refine hK _ _ ⟨h24, ?_⟩; clear hK K
            refine wpAnyH_narrow (T := fun X => Kp (fun _ => False) w24 X) (fun X hX => h24.trans hX) ?_
            have k24 : Kp (fun _ => False) w24 w24 := Kp.refl _ _
            refine wpAnyH_take (i := 25) (v := .string s2) rfl (by kernel_rfl) (by kernel_rfl) (by kernel_rfl) (fun _ _ _ h => h) (Or.inl ⟨by rfl, by intro W hW; have e9 := e25.out W hW; go_simp; try (first | (with_reducible rfl) | omega)⟩) k24 ?_
            refine wpAnyH_one (i := 26) (by kernel_rfl) rfl (fun K hK => ?_)
            go_simp
            refine hK _ _ ⟨k24, ?_⟩; clear hK K
            refine wpAnyH_one (i := 27) (by kernel_rfl) rfl (fun K hK => ?_)
            go_simp
            refine hK _ _ ⟨k24, ?_⟩; clear hK K
            refine wpAnyH_one (i := 28) (by kernel_rfl) rfl (fun K hK => ?_)
            go_simp
            refine hK _ _ ⟨k24, ?_⟩; clear hK K
            refine wpAnyH_one (i := 29) (by kernel_rfl) rfl (fun K hK => ?_)
            go_simp
            refine hK _ _ ⟨k24, ?_⟩; clear hK K
            refine wpAnyH_one (i := 30) (by kernel_rfl) rfl (fun K hK => ?_)
            go_simp
            refine (cl.out _).mono ?_
            rintro e w30 ⟨rfl, hb30⟩
            have h30 := k24.ofBelow hb30
            have G30 : Hid (Below w.heap.size w w30) := Lib.hid (bl_trans G24.out G24.out.size hb30)
            go_simp
            refine hK _ _ ⟨h30, ?_⟩; clear hK K
            refine wpAnyH_one (i := 31) (by kernel_rfl) rfl (fun K hK => ?_)
            go_simp
            refine hK _ _ ⟨h30, ?_⟩; clear hK K
            refine wpAnyH_one (i := 32) (by kernel_rfl) rfl (fun K hK => ?_)
            go_simp
            refine hK _ _ ⟨h30, ?_⟩; clear hK K
            refine wpAnyH_done (by kernel_rfl) ?_ _
            go_simp
            go_wp2_with fail
            go_ret
            exact ⟨rfl, G30.out⟩
        · go_simp
          obtain ⟨wb, hwb⟩ : ∃ X, World.alloc w13 (.cells #[.int .u8 1] 5) = X := ⟨_, rfl⟩
          have hbb : Below (World.heap w13).size w13 wb := by rw [← hwb]; exact bl_one _
          obtain ⟨b21, hb21⟩ : ∃ b, (World.heap w13).size = b := ⟨_, rfl⟩
          have O21 : wb.ownsRow b21 5 1 (.slice (some ⟨b21, 0, none⟩) 1 1) 1 (rowB [1]) := by rw [← hwb, ← hb21]; exact lit_own _
          rw [hwb, hb21]
          have h21 := hS13.ofBelow hbb
          have G21 : Hid (Below w.heap.size w wb) := Lib.hid (bl_trans G13.out G13.out.size hbb)
          refine hK _ _ ⟨h21, ?_⟩; clear hK K
          refine wpAnyH_narrow (T := fun X => Kp (fun _ => False) wb X) (fun X hX => h21.trans hX) ?_
          have e22 : Hid (∀ X, Kp (fun _ => False) wb X → (convert 31 9 (.slice (some ⟨b21, 0, none⟩) 1 1)).run Tryd.prog X = .ok (.string s1) X) := Lib.hid fun X hX => by rw [← hs1.out]; exact conv_row O21 hX (fun j _ hs => hs) (by simp)
          have k21 : Kp (fun _ => False) wb wb := Kp.refl _ _
          clear O21 hwb hbb hb21
          refine wpAnyH_take (i := 22) (v := .string s1) rfl (by kernel_rfl) (by kernel_rfl) (by kernel_rfl) (fun _ _ _ h => h) (Or.inl ⟨by rfl, by intro W hW; have e9 := e22.out W hW; go_simp; try (first | (with_reducible rfl) | omega)⟩) k21 ?_
          refine wpAnyH_one (i := 17) (by kernel_rfl) rfl (fun K hK => ?_)
          go_simp
          obtain ⟨wa, hwa⟩ : ∃ X, World.alloc wb (.cells #[.int .u8 1] 5) = X := ⟨_, rfl⟩
          have hwb : Below (World.heap wb).size wb wa := by rw [← hwa]; exact bl_one _
          obtain ⟨b17, hb17⟩ : ∃ b, (World.heap wb).size = b := ⟨_, rfl⟩
          have O17 : Hid (wa.ownsRow b17 5 1 (.slice (some ⟨b17, 0, none⟩) 1 1) 1 (rowB [1])) := Lib.hid (by rw [← hwa, ← hb17]; exact lit_own _)
          have hlt17 : b17 < wa.heap.size := by rw [← hwa, ← hb17]; simp
          rw [hb17] at hwb
          rw [hwa, hb17]
          have h17 := k21.ofBelow (by rw [hb17]; exact hwb)
          have G17 : Hid (Below w.heap.size w wa) := Lib.hid (bl_trans G21.out G21.out.size (by rw [hb17]; exact hwb))
          have L17 : Hid (w.heap.size ≤ b17) := Lib.hid (by rw [← hb17]; exact G21.out.size)
          have N17 : Hid (∀ u : World, Kp (fun _ => False) u wb → u.heap.size ≤ b17) := Lib.hid fun u hu => by rw [← hb17]; exact hu.size
          refine hK _ _ ⟨h17, ?_⟩; clear hK K hwa hwb hb17
          refine wpAnyH_one (i := 19) (by kernel_rfl) rfl (fun K hK => ?_)
          go_simp
          refine (mPut_any b17 1 1 (some ⟨b17, 0, none⟩) [1] A k c xs wa (H.out.on G17.out) HOK.out hn' (by omega) (by omega) O17.out).mono ?_
          rintro e w19 ⟨A9, k9, c9, rfl, hk9, hl9, hown9, hkp9⟩
          have h19 := h17.trans' hkp9 (U := fun j => False) (fun j hj hs => hs.elim id fun hs => by injection hs with hs; injection hs with hs; have := N17.out _ k21; omega)
          have hBl : Below w.heap.size w w19 := G17.out.trans (hkp9.below G17.out.size fun j hj => by injection hj with hj; injection hj with hj; have := L17.out; omega)
          have G19 := Lib.hid hBl
          have e20 : Hid (∀ X, Kp (fun _ => False) w19 X → (convert 31 9 (.slice A9 k9 c9)).run Tryd.prog X = .ok (.string (s1 ++ s2)) X) := Lib.hid fun X hX => by rw [← hs1.out, ← hs2.out, ← strB_app]; exact conv_row hown9 hX (fun _ _ hs => hs) HBY1.out
          clear hk9 hl9 hown9 hkp9 hBl
          go_simp
          refine hK _ _ ⟨h19, ?_⟩; clear hK K
          refine wpAnyH_narrow (T := fun X => Kp (fun _ => False) w19 X) (fun X hX => h19.trans' hX fun j hj hs => hs.elim id fun hs => hs.elim) ?_
          have k19 : Kp (fun _ => False) w19 w19 := Kp.refl _ _
          refine wpAnyH_take (i := 20) (v := .string (s1 ++ s2)) rfl (by kernel_rfl) (by kernel_rfl) (by kernel_rfl) (fun _ _ _ h => h) (Or.inl ⟨by rfl, by intro W hW; have e9 := e20.out W hW; go_simp; try (first | (with_reducible rfl) | omega)⟩) k19 ?_
          refine wpAnyH_one (i := 24) (by kernel_rfl) rfl (fun K hK => ?_)
          go_simp
          refine (rPut_any A k c xs w19 (H.out.on G19.out) HOK.out hn').mono ?_
          rintro e w24 ⟨A4, k4, c4, rfl, hk4, hl4, hown4, hb4⟩
          have h24 := k19.ofBelow hb4
          have G24 : Hid (Below w.heap.size w w24) := Lib.hid (bl_trans G19.out G19.out.size hb4)
          have e25 : Hid (∀ X, Kp (fun _ => False) w24 X → (convert 31 9 (.slice A4 k4 c4)).run Tryd.prog X = .ok (.string s2) X) := Lib.hid fun X hX => by rw [← hs2.out]; exact conv_row hown4 hX (fun _ _ hs => hs) HBY2.out
          clear hk4 hl4 hown4 hb4
          go_simp
          refine hK _ _ ⟨h24, ?_⟩; clear hK K
          refine wpAnyH_narrow (T := fun X => Kp (fun _ => False) w24 X) (fun X hX => h24.trans hX) ?_
          have k24 : Kp (fun _ => False) w24 w24 := Kp.refl _ _
          refine wpAnyH_take (i := 25) (v := .string s2) rfl (by kernel_rfl) (by kernel_rfl) (by kernel_rfl) (fun _ _ _ h => h) (Or.inl ⟨by rfl, by intro W hW; have e9 := e25.out W hW; go_simp; try (first | (with_reducible rfl) | omega)⟩) k24 ?_
          refine wpAnyH_one (i := 26) (by kernel_rfl) rfl (fun K hK => ?_)
          go_simp
          refine hK _ _ ⟨k24, ?_⟩; clear hK K
          refine wpAnyH_one (i := 27) (by kernel_rfl) rfl (fun K hK => ?_)
          go_simp
          refine hK _ _ ⟨k24, ?_⟩; clear hK K
          refine wpAnyH_one (i := 28) (by kernel_rfl) rfl (fun K hK => ?_)
          go_simp
          refine hK _ _ ⟨k24, ?_⟩; clear hK K
          refine wpAnyH_one (i := 29) (by kernel_rfl) rfl (fun K hK => ?_)
          go_simp
          refine hK _ _ ⟨k24, ?_⟩; clear hK K
          refine wpAnyH_one (i := 30) (by kernel_rfl) rfl (fun K hK => ?_)
          go_simp
          refine (cl.out _).mono ?_
          rintro e w30 ⟨rfl, hb30⟩
          have h30 := k24.ofBelow hb30
          have G30 : Hid (Below w.heap.size w w30) := Lib.hid (bl_trans G24.out G24.out.size hb30)
          go_simp
          refine hK _ _ ⟨h30, ?_⟩; clear hK K
          refine wpAnyH_one (i := 31) (by kernel_rfl) rfl (fun K hK => ?_)
          go_simp
          refine hK _ _ ⟨h30, ?_⟩; clear hK K
          refine wpAnyH_one (i := 32) (by kernel_rfl) rfl (fun K hK => ?_)
          go_simp
          refine hK _ _ ⟨h30, ?_⟩; clear hK K
          refine wpAnyH_done (by kernel_rfl) ?_ _
          go_simp
          go_wp2_with fail
          go_ret
          exact ⟨rfl, G30.out⟩
end Go.Proofs.YtgjmmbhakjalgaaDoor
