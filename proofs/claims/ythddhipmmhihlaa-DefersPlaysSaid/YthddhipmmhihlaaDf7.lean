/-
  Whatever calls are deferred: the walk.
-/
import Derived.Test.YthddhipmmhihlaaDf6
namespace Go.Proofs.Ythddhipmmhihlaa
open Go.RowKit Go.Maps
set_option linter.unusedSimpArgs false
set_option linter.unusedVariables false
structure R9 (wa wx : World) (rb ab : Nat) (fr fn : Int) (v : DV) : Prop where
  kp : Kp (fun _ => False) wa wx
  r0 : wx.cell? ⟨rb, 0, none⟩ = some (.int .i64 fr)
  r1 : wx.cell? ⟨rb, 1, none⟩ = some (.int .i64 fn)
  r2 : wx.cell? ⟨rb, 2, none⟩ = some (.slice (some ⟨ab, 0, none⟩) 1 1)
  rl : wa.heap.size ≤ rb
  sl : SlV wx wx.heap.size (some ⟨ab, 0, none⟩) 1 1 [v]
  al : wa.heap.size ≤ ab ∧ ab < wx.heap.size
theorem sl_one (W : World) (k n : Int) (x y : Nat) : SlV (W.alloc (.cells #[.int .i64 k, .int .i64 n, .complex .f64 x y] 45)) (W.heap.size + 1) (some ⟨W.heap.size, 0, none⟩) 1 1 [⟨k, n, x, y⟩] := by
  have := slv_lit W k n x y
  simpa using this
theorem R9.a {wa w4 : World} {fr fn k n : Int} {x y : Nat} (h : Kp (fun _ => False) wa w4) : R9 wa ((w4.alloc (.cells #[.int .i64 k, .int .i64 n, .complex .f64 x y] 45)).alloc (.cells #[.int .i64 fr, .int .i64 fn, .slice (some ⟨w4.heap.size, 0, none⟩) 1 1] 26)) (w4.heap.size + 1) w4.heap.size fr fn ⟨k, n, x, y⟩ := by
  have hs := h.size
  have z := fun j u hu => (new_cells (w := w4.alloc (.cells #[.int .i64 k, .int .i64 n, .complex .f64 x y] 45)) (cs := #[.int .i64 fr, .int .i64 fn, .slice (some ⟨w4.heap.size, 0, none⟩) 1 1]) (t := 26) (Below.refl _ _) j u hu).1
  rw [show (w4.alloc (.cells #[.int .i64 k, .int .i64 n, .complex .f64 x y] 45)).heap.size = w4.heap.size + 1 by simp] at z
  exact ⟨(h.alloc _).alloc _, z 0 _ rfl, z 1 _ rfl, z 2 _ rfl, by omega, SlR.kp (T := fun _ => False) (sl_one w4 k n x y) (by simp) (fun _ _ => id) ((Kp.refl _ _).alloc _), by omega, by simp; omega⟩
theorem R9.b {wa w4 : World} {fr fn k n : Int} {x y : Nat} (h : Kp (fun _ => False) wa w4) : R9 wa ((w4.alloc (.cells #[.int .i64 fr, .int .i64 fn, .slice (some ⟨w4.heap.size + 1, 0, none⟩) 1 1] 26)).alloc (.cells #[.int .i64 k, .int .i64 n, .complex .f64 x y] 45)) w4.heap.size (w4.heap.size + 1) fr fn ⟨k, n, x, y⟩ := by
  have hs := h.size
  have z := fun j u hu => (new_cells (w := w4) (cs := #[.int .i64 fr, .int .i64 fn, .slice (some ⟨w4.heap.size + 1, 0, none⟩) 1 1]) (t := 26) (w1 := (w4.alloc (.cells #[.int .i64 fr, .int .i64 fn, .slice (some ⟨w4.heap.size + 1, 0, none⟩) 1 1] 26)).alloc (.cells #[.int .i64 k, .int .i64 n, .complex .f64 x y] 45)) ((Below.refl _ _).alloc (Nat.le_refl _) _) j u hu).1
  have e := sl_one (w4.alloc (.cells #[.int .i64 fr, .int .i64 fn, .slice (some ⟨w4.heap.size + 1, 0, none⟩) 1 1] 26)) k n x y
  rw [show (w4.alloc (.cells #[.int .i64 fr, .int .i64 fn, .slice (some ⟨w4.heap.size + 1, 0, none⟩) 1 1] 26)).heap.size = w4.heap.size + 1 by simp] at e
  exact ⟨(h.alloc _).alloc _, z 0 _ rfl, z 1 _ rfl, z 2 _ rfl, by omega, by simpa using e, by omega, by simp⟩
theorem R9.c {wa w4 : World} {fr fn k n : Int} {x y : Nat} {u0 u1 u2 : Value} (h : Kp (fun _ => False) wa w4) (e0 : w4.cell? ⟨wa.heap.size, 0, none⟩ = some u0) (e1 : w4.cell? ⟨wa.heap.size, 1, none⟩ = some u1) (e2 : w4.cell? ⟨wa.heap.size, 2, none⟩ = some u2) :
    R9 wa ((((w4.setCell ⟨wa.heap.size, 0, none⟩ (.int .i64 fr)).setCell ⟨wa.heap.size, 1, none⟩ (.int .i64 fn)).setCell ⟨wa.heap.size, 2, none⟩ (.slice (some ⟨w4.heap.size, 0, none⟩) 1 1)).alloc (.cells #[.int .i64 k, .int .i64 n, .complex .f64 x y] 45)) wa.heap.size w4.heap.size fr fn ⟨k, n, x, y⟩ := by
  have hk : Kp (fun _ => False) wa (((w4.setCell ⟨wa.heap.size, 0, none⟩ (.int .i64 fr)).setCell ⟨wa.heap.size, 1, none⟩ (.int .i64 fn)).setCell ⟨wa.heap.size, 2, none⟩ (.slice (some ⟨w4.heap.size, 0, none⟩) 1 1)) :=
    ((h.setCell (p := ⟨wa.heap.size, 0, none⟩) (fun hl => absurd hl (Nat.lt_irrefl _)) _).setCell (p := ⟨wa.heap.size, 1, none⟩) (fun hl => absurd hl (Nat.lt_irrefl _)) _).setCell (p := ⟨wa.heap.size, 2, none⟩) (fun hl => absurd hl (Nat.lt_irrefl _)) _
  have hsz : (((w4.setCell ⟨wa.heap.size, 0, none⟩ (.int .i64 fr)).setCell ⟨wa.heap.size, 1, none⟩ (.int .i64 fn)).setCell ⟨wa.heap.size, 2, none⟩ (.slice (some ⟨w4.heap.size, 0, none⟩) 1 1)).heap.size = w4.heap.size := by simp [World.setCell]
  have hlt : wa.heap.size < w4.heap.size := World.block_lt_of_cell? _ _ e0
  have c : ∀ (j : Nat) (u : Value), (((w4.setCell ⟨wa.heap.size, 0, none⟩ (.int .i64 fr)).setCell ⟨wa.heap.size, 1, none⟩ (.int .i64 fn)).setCell ⟨wa.heap.size, 2, none⟩ (.slice (some ⟨w4.heap.size, 0, none⟩) 1 1)).cell? ⟨wa.heap.size, j, none⟩ = some u → ((((w4.setCell ⟨wa.heap.size, 0, none⟩ (.int .i64 fr)).setCell ⟨wa.heap.size, 1, none⟩ (.int .i64 fn)).setCell ⟨wa.heap.size, 2, none⟩ (.slice (some ⟨w4.heap.size, 0, none⟩) 1 1)).alloc (.cells #[.int .i64 k, .int .i64 n, .complex .f64 x y] 45)).cell? ⟨wa.heap.size, j, none⟩ = some u := fun j u hu => (World.cell?_alloc_lt _ _ _ (by rw [hsz]; exact hlt)).trans hu
  have e := sl_one (((w4.setCell ⟨wa.heap.size, 0, none⟩ (.int .i64 fr)).setCell ⟨wa.heap.size, 1, none⟩ (.int .i64 fn)).setCell ⟨wa.heap.size, 2, none⟩ (.slice (some ⟨w4.heap.size, 0, none⟩) 1 1)) k n x y
  rw [hsz] at e
  exact ⟨hk.alloc _, c 0 _ (by simp [go_sem, e0, e1, e2]), c 1 _ (by simp [go_sem, e0, e1, e2]), c 2 _ (by simp [go_sem, e0, e1, e2]), Nat.le_refl _, by simpa [World.setCell] using e, by omega, by simp [World.setCell]⟩
theorem LastOf.uniq {f : Int} {qs : List PR} {k i : Nat} {a : Int} {q : PR} (h : LastOf f qs k a) (hi : i < k) (hq : qs[i]? = some q) (hf : q.x.fr = f) (hl : ∀ (j : Nat) (q' : PR), i < j → qs[j]? = some q' → q'.x.fr ≠ f) : a = (i : Nat) := by
  rcases h with ⟨_, h2⟩ | ⟨i1, q1, h1, h2, h3, h4, h5⟩
  · exact absurd hf (h2 i q hi hq)
  · rcases Nat.lt_trichotomy i i1 with hlt | rfl | hgt
    · exact absurd h4 (hl i1 q1 hlt h3)
    · exact h1
    · exact absurd hf (h5 i q hgt hi hq)
theorem LastOf.none_ {f : Int} {qs : List PR} {k : Nat} {a : Int} (h : LastOf f qs k a) (h0 : cntP qs f = 0) : a = -1 := by
  rcases h with ⟨h1, _⟩ | ⟨i, q, h1, h2, h3, h4, h5⟩
  · exact h1
  · have hm : q ∈ qs.filter (fun p => p.x.fr == f) := List.mem_filter.2 ⟨List.mem_of_getElem? h3, by simp [h4]⟩
    unfold cntP at h0
    have := List.length_pos_of_mem hm
    omega
theorem src_take {w : World} {B lb loff n c i : Nat} {qs : List PR} (h : SlP w B (some ⟨lb, loff, none⟩) n c qs) (hi : i ≤ n) : SrcCells w (some ⟨lb, loff, none⟩) i 3 ((qs.flatMap cellsP).take (i * 3)) := by
  have hs := SlR.src (sz := 3) (f := cellsP) (fun _ => rfl) h
  refine ⟨by rw [List.length_take, hs.1]; exact Nat.min_eq_left (Nat.mul_le_mul_right _ hi), (fun e => by cases e), fun ad ha j u hu => ?_⟩
  rw [List.getElem?_take] at hu
  split at hu
  · exact hs.2.2 ad ha j u hu
  · cases hu
theorem src_drop {w : World} {B lb loff n c i m : Nat} {qs : List PR} (h : SlP w B (some ⟨lb, loff, none⟩) n c qs) (hi : n = i + m) {ad : Addr} (had : ad = ⟨lb, loff + i * 3, none⟩ ∨ m = 0) : SrcCells w (some ad) m 3 ((qs.flatMap cellsP).drop (i * 3)) := by
  have hs := SlR.src (sz := 3) (f := cellsP) (fun _ => rfl) h
  have hl : ((qs.flatMap cellsP).drop (i * 3)).length = m * 3 := by rw [List.length_drop, hs.1, hi]; omega
  refine ⟨hl, (fun e => by cases e), fun ad' ha j u hu => ?_⟩
  injection ha with ha
  subst ha
  rcases had with rfl | rfl
  · rw [List.getElem?_drop] at hu
    have := hs.2.2 _ rfl _ u hu
    rw [addr_add] at this ⊢
    rw [← Nat.add_assoc] at this
    exact this
  · have := (List.getElem?_eq_some_iff.1 hu).1
    omega
theorem one_P (ps : List Value) (h : ∀ u ∈ ps, u.oneCell' = true) (l : List Value) (hl : ∀ u ∈ l, u ∈ ps) : ∀ u ∈ l, u.oneCell' = true := fun u hu => h u (hl u hu)
theorem one_flat (qs : List PR) : ∀ u ∈ qs.flatMap cellsP, u.oneCell' = true := fun u hu => by
  obtain ⟨v, _, hv⟩ := List.mem_flatMap.1 hu
  simp [cellsP] at hv
  rcases hv with rfl | rfl | rfl <;> rfl
set_option maxRecDepth 100000 in
set_option maxHeartbeats 8000000 in
theorem defersPlays_walk (cA : Option Addr) (cn cc : Nat) (ops : List DOp7) (w : World) (h : SlR 7 56 ROp7 w w.heap.size cA cn cc ops) :
    Calls Try.prog 4 #[.slice cA cn cc] w fun e w' => e = .returned (.bool true) ∧ Below w.heap.size w w' := by
  have hcm : cn ≤ 9223372036854775807 := by have := h.2.1; have := h.2.2.1; unfold maxLen at this; omega
  obtain ⟨w1, hw1⟩ : ∃ w1, w.alloc (.cells #[.slice none 0 0, .map none] 37) = w1 := ⟨_, rfl⟩
  have hp1 : PileW w1 w.heap.size none 0 none 0 [] := by rw [← hw1]; exact pile_new w
  have hb1 : Below w.heap.size w w1 := by rw [← hw1]; exact (Below.refl _ _).alloc (Nat.le_refl _) _
  have H0 : Hid (LS w w1 0 none 0 0) := Lib.hid ⟨hb1, none, 0, none, 0, [], [], hp1, SlR.nil_ _ _, fun p hp => (by simp at hp), fun ad ha => (by cases ha), rfl, Nat.le_refl _, Nat.le_refl _, fun j hj => by rcases hj with rfl | h | h; exact Nat.le_refl _; cases h; cases h⟩
  have HC := Lib.hid h
  have HE := Lib.hid hw1
  clear h hp1 hb1 hw1
  go_enter Try.func4, Try.ntmps4
  go_wp2_with fail
  rw [HE.out]
  go_loopg [4, 5] cn (fun g l i wr => ∃ (t n lc : Nat) (lA : Option Addr), l = .slice lA n lc ∧ i = .int .i64 t ∧ t ≤ cn ∧ t ≤ 60 ∧ g = cn - t ∧ Hid (LS w wr t lA n lc))
  case atStart => exact ⟨0, 0, 0, none, rfl, rfl, Nat.zero_le _, by omega, rfl, H0⟩
  case round =>
    obtain ⟨t, n, lc, lA, rfl, rfl, htc, ht60, rfl, HS⟩ := hrel
    by_cases htt : t < cn ∧ t < 60
    · obtain ⟨ht1, ht2⟩ := htt
      obtain ⟨b, off, ⟨ka, fr, fn, ⟨vk, vn, vr, vi⟩⟩, rfl, hb, hx, p0, p1, p2, p3, p4, p5, p6, wk, wf, wn⟩ := op7_at HC.out ht1
      have q0 := (HS.out.bw.cell (p := ⟨b, off + t * 7, none⟩) hb).trans p0
      have q1 := (HS.out.bw.cell (p := ⟨b, off + t * 7 + 1, none⟩) hb).trans p1
      have q2 := (HS.out.bw.cell (p := ⟨b, off + t * 7 + 2, none⟩) hb).trans p2
      have q3 := (HS.out.bw.cell (p := ⟨b, off + t * 7 + 3, none⟩) hb).trans p3
      have q4 := (HS.out.bw.cell (p := ⟨b, off + t * 7 + 4, none⟩) hb).trans p4
      have q5 := (HS.out.bw.cell (p := ⟨b, off + t * 7 + 5, none⟩) hb).trans p5
      have q6 := (HS.out.bw.cell (p := ⟨b, off + t * 7 + 6, none⟩) hb).trans p6
      simp only at q0 q1 q2 q3 q4 q5 q6 wk wf wn
      clear p0 p1 p2 p3 p4 p5 p6 hx hb
      go_upto_region 8 with fail
      go_cut [39] (fun c wx => c = .bool (decide (ka.tmod 3 = 0 ∨ ka.tmod 3 = 1)) ∧ wx = wr.alloc (.cells #[.int .i64 ka, .int .i64 fr, .int .i64 fn, .int .i64 vk, .int .i64 vn, .int .i64 vr, .int .i64 vi] 42))
      case first =>
        rcases (show ka.tmod 3 = 0 ∨ ka.tmod 3 = 1 ∨ (¬ ka.tmod 3 = 0 ∧ ¬ ka.tmod 3 = 1) by omega) with h | h | ⟨h, h'⟩
        · have e : decide (ka.tmod 3 = 0 ∨ ka.tmod 3 = 1) = true := decide_eq_true (.inl h)
          have t0 : (ka.tmod 3 == 0) = true := by simp [h]
          have HE9 := Lib.hid e
          clear h e
          go_wp2_with fail
          go_meet
          exact ⟨congrArg Value.bool HE9.out.symm, rfl⟩
        · have e : decide (ka.tmod 3 = 0 ∨ ka.tmod 3 = 1) = true := decide_eq_true (.inr h)
          have t0 : (ka.tmod 3 == 0) = false := by simp [h]
          have t1 : (ka.tmod 3 == 1) = true := by simp [h]
          have HE9 := Lib.hid e
          clear h e
          go_wp2_with fail
          go_meet
          exact ⟨congrArg Value.bool HE9.out.symm, rfl⟩
        · have e : decide (ka.tmod 3 = 0 ∨ ka.tmod 3 = 1) = false := decide_eq_false (by omega)
          have t0 : (ka.tmod 3 == 0) = false := by simp [h]
          have t1 : (ka.tmod 3 == 1) = false := by simp [h']
          have HE9 := Lib.hid e
          clear h h' e
          go_wp2_with fail
          go_meet
          exact ⟨congrArg Value.bool HE9.out.symm, rfl⟩
      case rest =>
        obtain ⟨rfl, rfl⟩ := hcut
        obtain ⟨push, hpush⟩ : ∃ x, decide (ka.tmod 3 = 0 ∨ ka.tmod 3 = 1) = x := ⟨_, rfl⟩
        rw [hpush]
        clear hpush
        obtain ⟨hbwr, A, c, mo, k, ps, qs, hp0, hl0, ha0, ho0, hm0, hnt, hkt, hB0⟩ := HS.out
        obtain ⟨ob, hobe⟩ : ∃ x, wr.heap.size = x := ⟨_, rfl⟩
        obtain ⟨wa, hwa⟩ : ∃ x, wr.alloc (.cells #[.int .i64 ka, .int .i64 fr, .int .i64 fn, .int .i64 vk, .int .i64 vn, .int .i64 vr, .int .i64 vi] 42) = x := ⟨_, rfl⟩
        have hkwa : Kp (fun _ => False) wr wa := by rw [← hwa]; exact (Kp.refl _ _).alloc _
        have hob : ∀ (j : Nat) (u : Value), #[Value.int .i64 ka, .int .i64 fr, .int .i64 fn, .int .i64 vk, .int .i64 vn, .int .i64 vr, .int .i64 vi][j]? = some u → wa.cell? ⟨ob, j, none⟩ = some u := fun j u hu => by
          rw [← hwa, ← hobe]
          exact (new_cells (Below.refl _ _) j u hu).1
        have hoblt : ob < wa.heap.size := by rw [← hwa, ← hobe]; simp
        have HNOB : Hid (¬ Blk w.heap.size A mo ob) := Lib.hid fun hB => by have := hp0.blk_lt hB; omega
        have HS2 : Hid (LS w wa t lA n lc) := Lib.hid (HS.out.on hkwa)
        have HBW : Hid (Below w.heap.size w wa) := Lib.hid HS2.out.bw
        have HP := Lib.hid (hp0.on hkwa)
        have HL : Hid (SlP wa wa.heap.size lA n lc qs) := Lib.hid (SlR.kp hl0 (Nat.le_refl _) (fun _ _ => id) hkwa)
        have HA : Hid (PArgs wa (Blk w.heap.size A mo) qs) := Lib.hid (ha0.kp (hkwa.mono fun _ _ h => h.elim) (fun j hj => .inl hj))
        have HO : Hid (Ok wa (Blk w.heap.size A mo) lA) := Lib.hid (ho0.kp hkwa.size (fun j hj => .inl hj))
        have HM := Lib.hid hm0
        have HB0 := Lib.hid hB0
        have HOB := Lib.hid hob
        have HOBL := Lib.hid hoblt
        have hpl : ps.length = n := (map_len hm0).trans hl0.1
        have HPL := Lib.hid hpl
        rw [hobe, hwa]
        clear hobe hwa q0 q1 q2 q3 q4 q5 q6 hkwa hob hoblt hp0 hl0 ha0 ho0 hm0 hB0 hbwr hpl
        go_upto_if 39 with fail
        go_cut [4] (fun l wx => ∃ (n' lc' : Nat) (lA' : Option Addr), l = .slice lA' n' lc' ∧ Hid (LS w wx (t + 1) lA' n' lc') ∧ Hid (wx.cell? ⟨ob, 1, none⟩ = some (.int .i64 fr)))
        case first =>
          cases push
          · by_cases h0 : cntP ps fr = 0
            · have hmp := HP.out.mp
              have cT := Lib.hid (take_none w.heap.size k mo (cntP ps) fr wa HP.out.mp wf h0)
              have h0q : cntP qs fr = 0 := by rw [← map_cnt HM.out]; exact h0
              have ob0 := HOB.out 1 _ rfl
              have HB9 := HB0
              have HL9 := HL
              clear hmp HS HC H0 HE HL HA HO HP HB0 HPL HNOB HM
              go_wp2_with fail
              refine cT.out.mono ?_
              rintro e w3 ⟨rfl, hb3⟩
              obtain ⟨w4, hw4⟩ : ∃ x, w3.alloc (.cells #[.int .i64 0, .int .i64 0, .slice none 0 0] 26) = x := ⟨_, rfl⟩
              have hk4 : Kp (fun _ => False) wa w4 := by rw [← hw4]; exact ((Kp.refl _ _).ofBelow hb3).alloc _
              have ob4 : (w3.alloc (.cells #[.int .i64 0, .int .i64 0, .slice none 0 0] 26)).cell? ⟨ob, 1, none⟩ = some (.int .i64 fr) := by rw [hw4]; exact hk4.cellv ob0 id
              have cL := Lib.hid (last_any lA n lc _ qs fr w4 (SlR.kp HL9.out (Nat.le_refl _) (fun _ _ => id) hk4) (by omega))
              have F : Hid (LS w w4 (t + 1) lA n lc ∧ w4.cell? ⟨ob, 1, none⟩ = some (.int .i64 fr)) := Lib.hid ⟨(HS2.out.on hk4).mono (by omega), hk4.cellv ob0 id⟩
              have z := fun j u hu => (new_cells (w := w3) (cs := #[.int .i64 0, .int .i64 0, .slice none 0 0]) (t := 26) (Below.refl _ _) j u hu).1
              rw [hw4] at z
              have z0 := z 0 _ rfl
              have z1 := z 1 _ rfl
              have z2 := z 2 _ rfl
              have HW4 := Lib.hid hw4
              have H0Q := Lib.hid h0q
              clear hw4 hk4 z hb3 ob0 h0 h0q HL9 HS2 cT
              go_wp2_with fail
              rw [HW4.out]
              refine cL.out.mono ?_
              rintro e w5 ⟨⟨a, rfl, hla⟩, rfl⟩
              obtain rfl := hla.none_ H0Q.out
              clear hla cL
              go_wp2_with fail
              go_meet
              exact ⟨n, lc, lA, rfl, F.out.1, F.out.2⟩
            · have hle := cntP_le ps fr
              obtain ⟨i, q, hq, hqf, hlast⟩ := last_of ps (show 0 < cntP ps fr by omega)
              obtain ⟨r, rfl⟩ := pile_some HP.out (by have := (List.getElem?_eq_some_iff.1 hq).1; omega)
              have cT := Lib.hid (take_some w.heap.size c k r mo ps fr i q wa HP.out wf hq hqf hlast (by have := HPL.out; omega) (by omega))
              obtain ⟨q', hq', hqx⟩ := map_at HM.out.symm hq
              have hlast' : ∀ (j : Nat) (p : PR), i < j → qs[j]? = some p → p.x.fr ≠ fr := fun j p hj hp => by
                obtain ⟨p', hp', hpx⟩ := map_at HM.out hp
                rw [← hpx]
                exact hlast j p' hj hp'
              have hin : i < n := by have := (List.getElem?_eq_some_iff.1 hq').1; rw [HL.out.1] at this; exact this
              obtain ⟨kk, rfl⟩ : ∃ kk, n = i + kk + 1 := ⟨n - i - 1, by omega⟩
              obtain ⟨⟨qf, qn, qargs⟩, qA, qm, qc⟩ := q
              obtain ⟨⟨qf', qn', qargs'⟩, qA', qm', qc'⟩ := q'
              simp only at hqf hqx
              subst hqf
              injection hqx with e1 e2 e3
              subst e1 e2 e3
              have ob0 := HOB.out 1 _ rfl
              have HQ1 := Lib.hid hq'
              have HLA := Lib.hid hlast'
              clear hq hq' hlast hlast' hle
              go_wp2_with fail
              refine cT.out.mono ?_
              rintro e w3 ⟨rfl, mo3, hp3, hsl3, hk3, hT3⟩
              simp only [cellsAgg]
              have nob : ¬ Blk w.heap.size (some ⟨r, 0, none⟩) mo ob := HNOB.out
              obtain ⟨w4, hw4⟩ : ∃ x, w3.alloc (.cells #[.int .i64 qf', .int .i64 qn', .slice qA qm qc] 26) = x := ⟨_, rfl⟩
              have hk34 : Kp (fun _ => False) w3 w4 := by rw [← hw4]; exact (Kp.refl _ _).alloc _
              have ob3 : w3.cell? ⟨ob, 1, none⟩ = some (.int .i64 qf') := hk3.cellv ob0 nob
              have ob4 : (w3.alloc (.cells #[.int .i64 qf', .int .i64 qn', .slice qA qm qc] 26)).cell? ⟨ob, 1, none⟩ = some (.int .i64 qf') := by rw [hw4]; exact hk34.cellv ob3 id
              have hl3 : SlP w3 w3.heap.size lA (i + kk + 1) lc qs := SlR.kp HL.out (Nat.le_refl _) (fun ad h => (HO.out ad h).2) hk3
              have hl4 : SlP w4 w4.heap.size lA (i + kk + 1) lc qs := SlR.kp hl3 (Nat.le_refl _) (fun _ _ => id) hk34
              have cL := Lib.hid (last_any lA (i + kk + 1) lc _ qs qf' w4 hl4 (by omega))
              obtain ⟨lb, loff, v, rfl, hlb, hv, r0, r1, r2⟩ := slp_at hl4 (show i < i + kk + 1 by omega)
              have hvq : v = PR.mk ⟨qf', qn', qargs'⟩ qA' qm' qc' := by rw [HQ1.out] at hv; injection hv with hv; exact hv.symm
              subst hvq
              simp only at r0 r1 r2
              have z := fun j u hu => (new_cells (w := w3) (cs := #[.int .i64 qf', .int .i64 qn', .slice qA qm qc]) (t := 26) (Below.refl _ _) j u hu).1
              rw [hw4] at z
              obtain ⟨w5, hw5⟩ : ∃ x, w4.alloc (.cells #[.int .i64 qf', .int .i64 qn', .slice qA' qm' qc'] 26) = x := ⟨_, rfl⟩
              have hk45 : Kp (fun _ => False) w4 w5 := by rw [← hw5]; exact (Kp.refl _ _).alloc _
              have hk35 := hk34.trans hk45
              have y := fun j u hu => (new_cells (w := w4) (cs := #[.int .i64 qf', .int .i64 qn', .slice qA' qm' qc']) (t := 26) (Below.refl _ _) j u hu).1
              have x0 : (w4.alloc (.cells #[.int .i64 qf', .int .i64 qn', .slice qA' qm' qc'] 26)).cell? ⟨w3.heap.size, 0, none⟩ = some (.int .i64 qf') := by rw [hw5]; exact hk45.cellv (z 0 _ rfl) id
              have x1 : (w4.alloc (.cells #[.int .i64 qf', .int .i64 qn', .slice qA' qm' qc'] 26)).cell? ⟨w3.heap.size, 1, none⟩ = some (.int .i64 qn') := by rw [hw5]; exact hk45.cellv (z 1 _ rfl) id
              have x2 : (w4.alloc (.cells #[.int .i64 qf', .int .i64 qn', .slice qA' qm' qc'] 26)).cell? ⟨w3.heap.size, 2, none⟩ = some (.slice qA qm qc) := by rw [hw5]; exact hk45.cellv (z 2 _ rfl) id
              have z0 := z 0 _ rfl
              have z1 := z 1 _ rfl
              have z2 := z 2 _ rfl
              have sA : SlV w5 w5.heap.size qA qm qc qargs' := SlR.kp hsl3 (Nat.le_refl _) (fun _ _ => id) hk35
              have hq2 := HA.out _ (List.mem_of_getElem? HQ1.out)
              have sB : SlV w5 w5.heap.size qA' qm' qc' qargs' := SlR.kp (SlR.kp hq2.1 (Nat.le_refl _) (fun ad h => (hq2.2 ad h).2) hk3) (Nat.le_refl _) (fun _ _ => id) hk35
              obtain rfl : qm' = qm := by have h1 := sA.1; have h2 := sB.1; omega
              have cV := Lib.hid (refValues_true qA qA' qm' qc qc' _ qargs' qargs' w5 sA sB (Nat.le_refl _) (fun i x y h h' => by rw [h] at h'; injection h' with h'; subst h'; exact sameV_refl _))
              have HW4 := Lib.hid hw4
              have HW5 := Lib.hid hw5
              have HK35 := Lib.hid hk35
              have HK3 := Lib.hid hk3
              have HP3 := Lib.hid hp3
              have HT3 := Lib.hid hT3
              have HL3 := Lib.hid hl3
              have OB3 := Lib.hid ob3
              have hi0 : (0 : Int) ≤ (i : Int) := by omega
              have hi1 : ((i : Int) : Int) < (i : Int) + kk + 1 := by omega
              have hik : ((i + kk + 1 : Nat) : Int) = (i : Int) + kk + 1 := by omega
              have hlc : lc ≤ 9223372036854775807 ∧ i + kk + 1 ≤ lc := by have h1 := hl4.2.1; have h2 := hl4.2.2.1; unfold maxLen at h2; omega
              have tq : (qf' != qf') = false := by simp
              have tn : (qn' != qn') = false := by simp
              clear hw4 hw5 hk34 hk45 hk35 hk3 hp3 hT3 hl3 hl4 ob3 sA sB hq2 hv hlb hsl3 z y nob ob0 cT
              go_wp2_with fail
              rw [HW4.out]
              refine cL.out.mono ?_
              rintro e w9 ⟨⟨a, rfl, hla⟩, rfl⟩
              obtain rfl := hla.uniq (by omega) HQ1.out rfl HLA.out
              clear hla cL
              have tg : decide ((0 : Int) ≤ (i : Int)) = true := decide_eq_true hi0
              go_wp2_with fail
              rw [HW5.out]
              refine cV.out.mono ?_
              rintro e w6 ⟨rfl, hb6⟩
              have HK6 : Hid (Kp (fun _ => False) w3 w6) := Lib.hid (HK35.out.ofBelow hb6)
              clear hb6 cV x0 x1 x2 z0 z1 z2 r0 r1 r2
              go_wp2_with fail
              obtain ⟨i0, hi, hz0, hz1, hz2⟩ := info_parts info_rec
              have hk06 : Kp (Blk w.heap.size (some ⟨r, 0, none⟩) mo) wa w6 := HK3.out.trans (HK6.out.mono fun _ _ h => h.elim)
              have hl6 : SlP w6 w6.heap.size (some ⟨lb, loff, none⟩) (i + kk + 1) lc qs := SlR.kp HL3.out (Nat.le_refl _) (fun _ _ => id) HK6.out
              obtain ⟨ad8, had8⟩ : ∃ ad : Addr, (if lc = i + 1 then (⟨lb, loff, none⟩ : Addr) else ⟨lb, loff + (i + 1) * 3, none⟩) = ad := ⟨_, rfl⟩
              have hadd : ad8 = ⟨lb, loff + (i + 1) * 3, none⟩ ∨ kk = 0 := by
                by_cases h : lc = i + 1
                · exact .inr (by omega)
                · rw [if_neg h] at had8; exact .inl had8.symm
              have HSR1 : Hid (∀ W : World, Kp (fun _ => False) w6 W → SrcCells W (some ⟨lb, loff, none⟩) i 3 ((qs.flatMap cellsP).take (i * 3)) ∧ SrcCells W (some ad8) kk 3 ((qs.flatMap cellsP).drop ((i + 1) * 3))) := Lib.hid fun W hW => ⟨src_take (SlR.kp hl6 (Nat.le_refl _) (fun _ _ => id) hW) (by omega), src_drop (m := kk) (SlR.kp hl6 (Nat.le_refl _) (fun _ _ => id) hW) (by omega) hadd⟩
              have hone1 := Lib.hid (one_P _ (one_flat qs) ((qs.flatMap cellsP).take (i * 3)) (fun u hu => List.mem_of_mem_take hu))
              have hone2 := Lib.hid (one_P _ (one_flat qs) ((qs.flatMap cellsP).drop ((i + 1) * 3)) (fun u hu => List.mem_of_mem_drop hu))
              have ob6 : w6.cell? ⟨ob, 1, none⟩ = some (.int .i64 qf') := HK6.out.cellv OB3.out id
              have hfe := flat_erase (sz := 3) cellsP (fun _ => rfl) qs i
              have FIN : Hid (∀ (W : World) (A' : Option Addr) (c' : Nat), Kp (fun _ => False) w6 W → W.ownsRow w6.heap.size 26 3 (.slice A' (i + kk) c') (i + kk) ((qs.flatMap cellsP).take (i * 3) ++ (qs.flatMap cellsP).drop ((i + 1) * 3)) → LS w W (t + 1) A' (i + kk) c' ∧ W.cell? ⟨ob, 1, none⟩ = some (.int .i64 qf')) := Lib.hid fun W A' c' hW hown => ⟨LS.take (lc := lc) (lA := some ⟨lb, loff, none⟩) HBW.out HL.out HA.out HM.out hnt hkt HB0.out HP3.out HK3.out HT3.out (HK6.out.trans hW) (by rw [hfe]; exact hown.mono HK6.out.size) (by omega), hW.cellv ob6 id⟩
              have hn63 : 0 + i ≤ maxLen := by unfold maxLen; omega
              have hnb : (0 + i) * 40 ≤ 140737488355328 := by omega
              have hn63' : i + kk ≤ maxLen := by unfold maxLen; omega
              have hnb' : (i + kk) * 40 ≤ 140737488355328 := by omega
              have hs36 := HK6.out.size
              have hb36 : w3.heap.size ≤ w6.drew.heap.size := hs36
              have hS0 : Kp (fun _ => False) w6 w6.drew := (Kp.refl _ _).drew
              have hlci : i ≤ lc := by omega
              have HWR : Hid (IntKind.i64.wrap ((i : Int) + 1) = (i : Int) + 1) := Lib.hid (by
                rw [IntKind.wrap_i64]
                omega)
              have hac : (i : Int) + 1 ≤ lc := by omega
              have hai : (i : Int) + 1 ≤ (i : Int) + kk + 1 := by omega
              have hil9 : (i : Int) ≤ (i : Int) + kk + 1 := by omega
              clear HL HA HO HM HP HB0 HPL HS2 HS HC H0 HE HNOB HK35 HW4 HW5 HQ1 HLA HP3 HT3 HL3 OB3 hk06 hl6 ob6 hfe hs36 HOB HOBL HBW
              by_cases hci : lc = i + 1
              · rw [if_pos hci] at had8
                subst had8
                have hk0 : kk = 0 := by omega
                refine wp_region_held (S := fun W => Kp (fun _ => False) w6 W) (by kernel_rfl) ?_
                change wpAnyH _ _ _ _ _ _ _ _ (World.drew _)
                refine wpAnyH_take (i := 1) (v := .slice (some ⟨lb, loff, none⟩) (i + kk + 1) lc) rfl (by kernel_rfl) (by kernel_rfl) (by kernel_rfl) (fun _ _ _ h => h) (Or.inl ⟨by rfl, by intro W hW; go_simp; try (first | (with_reducible rfl) | omega)⟩) hS0 ?_
                refine wpAnyH_take (i := 2) (v := .int .i64 i) rfl (by kernel_rfl) (by kernel_rfl) (by kernel_rfl) (fun _ _ _ h => h) (Or.inl ⟨by rfl, by intro W hW; go_simp; try (first | (with_reducible rfl) | omega)⟩) hS0 ?_
                refine wpAnyH_take (i := 3) (v := .slice (some ⟨lb, loff, none⟩) i lc) rfl (by kernel_rfl) (by kernel_rfl) (by kernel_rfl) (fun _ _ _ h => h) (Or.inl ⟨by rfl, by intro W hW; go_simp; try (first | (with_reducible rfl) | omega)⟩) hS0 ?_
                refine wpAnyH_take (i := 5) (v := .slice (some ⟨lb, loff, none⟩) (i + kk + 1) lc) rfl (by kernel_rfl) (by kernel_rfl) (by kernel_rfl) (fun _ _ _ h => h) (Or.inl ⟨by rfl, by intro W hW; go_simp; try (first | (with_reducible rfl) | omega)⟩) hS0 ?_
                refine wpAnyH_take (i := 6) (v := .int .i64 i) rfl (by kernel_rfl) (by kernel_rfl) (by kernel_rfl) (fun _ _ _ h => h) (Or.inl ⟨by rfl, by intro W hW; go_simp; try (first | (with_reducible rfl) | omega)⟩) hS0 ?_
                refine wpAnyH_take (i := 7) (v := .int .i64 ((i : Int) + 1)) rfl (by kernel_rfl) (by kernel_rfl) (by kernel_rfl) (fun _ _ _ h => h) (Or.inl ⟨by rfl, by intro W hW; have hwr := HWR.out; go_simp; try (first | (with_reducible rfl) | omega)⟩) hS0 ?_
                refine wpAnyH_take (i := 8) (v := .slice (some ⟨lb, loff, none⟩) kk (lc - (i + 1))) rfl (by kernel_rfl) (by kernel_rfl) (by kernel_rfl) (fun _ _ _ h => h) (Or.inl ⟨by rfl, by intro W hW; go_simp; try (first | (with_reducible rfl) | omega)⟩) hS0 ?_
                have hw0 := Lib.hid (World.ownsRow_lit (base := w6.heap.size) (e := 26) (size := 3) w6.drew #[] 0 (Nat.le_refl _) (by unfold maxLen; omega) rfl)
                refine wpAnyH_one (i := 0) (by kernel_rfl) rfl (fun K hK => ?_)
                go_simp
                refine hK _ _ ⟨(hS0.alloc _), ?_⟩; clear hK K
                refine wpAnyH_one (i := 4) (by kernel_rfl) rfl (fun K hK => ?_)
                refine step_append_src _ rfl (.tmp 118) (.tmp 121) 34 rfl w6.heap.size 26 i0 (.agg #[.int .i64 0, .int .i64 0, .slice none 0 0]) 3 40 Try.underlying34 hi hz0 hz1 hz2 rfl (by decide) (.slice (some ⟨w6.drew.heap.size, 0, none⟩) 0 0) 0 [] ?qq1 hw0.out (some ⟨lb, loff, none⟩) i lc _ ?qq2 (HSR1.out _ (hS0.alloc _)).1 hone1.out hn63 hnb (hS0.alloc _).size ?_
                case qq1 => go_simp
                case qq2 => go_simp
                intro v' W2 hown hgrow hat
                rw [Nat.zero_add, List.nil_append] at hown
                obtain ⟨A2, c2, rfl, _⟩ := own_form hown
                have hS2 : Kp (fun _ => False) w6 W2 := (hS0.alloc _).ofGrown hgrow (fun j hj hl => by have h9 := (World.ownsRow.lt hw0.out j hj).1; have : j < w6.heap.size := hl; omega)
                have HW2 := Lib.hid hown
                clear hown hgrow hat
                refine hK _ _ ⟨hS2, ?_⟩; clear hK K
                refine wpAnyH_one (i := 9) (by kernel_rfl) rfl (fun K hK => ?_)
                refine step_append_src _ rfl (.tmp 122) (.tmp 126) 34 rfl w6.heap.size 26 i0 (.agg #[.int .i64 0, .int .i64 0, .slice none 0 0]) 3 40 Try.underlying34 hi hz0 hz1 hz2 rfl (by decide) (.slice A2 i c2) i _ ?qq3 HW2.out (some ⟨lb, loff, none⟩) kk (lc - (i + 1)) _ ?qq4 (HSR1.out _ hS2).2 hone2.out hn63' hnb' hS2.size ?_
                case qq3 => go_simp
                case qq4 => go_simp
                intro v' W4 hown4 hgrow4 hat4
                obtain ⟨A4, c4, rfl, _⟩ := own_form hown4
                have hS4 : Kp (fun _ => False) w6 W4 := hS2.ofGrown hgrow4 (fun j hj hl => by have h9 := (World.ownsRow.lt HW2.out j hj).1; have : j < w6.heap.size := hl; omega)
                have F := Lib.hid (FIN.out W4 A4 c4 hS4 hown4)
                clear hown4 hgrow4 hat4
                refine hK _ _ ⟨hS4, ?_⟩; clear hK K
                refine wpAnyH_take (i := 10) (v := .slice A4 (i + kk) c4) rfl (by kernel_rfl) (by kernel_rfl) (by kernel_rfl) (fun _ _ _ h => h) (Or.inl ⟨by rfl, by intro W hW; go_simp; try (first | (with_reducible rfl) | omega)⟩) hS4 ?_
                refine wpAnyH_done (by kernel_rfl) ?_ _
                go_wp2_with fail
                go_meet
                exact ⟨i + kk, c4, A4, by first | rfl | simp [hk0], F.out.1, F.out.2⟩
              · rw [if_neg hci] at had8
                subst had8
                have hlt9 : i + 1 < lc := by omega
                refine wp_region_held (S := fun W => Kp (fun _ => False) w6 W) (by kernel_rfl) ?_
                change wpAnyH _ _ _ _ _ _ _ _ (World.drew _)
                refine wpAnyH_take (i := 1) (v := .slice (some ⟨lb, loff, none⟩) (i + kk + 1) lc) rfl (by kernel_rfl) (by kernel_rfl) (by kernel_rfl) (fun _ _ _ h => h) (Or.inl ⟨by rfl, by intro W hW; go_simp; try (first | (with_reducible rfl) | omega)⟩) hS0 ?_
                refine wpAnyH_take (i := 2) (v := .int .i64 i) rfl (by kernel_rfl) (by kernel_rfl) (by kernel_rfl) (fun _ _ _ h => h) (Or.inl ⟨by rfl, by intro W hW; go_simp; try (first | (with_reducible rfl) | omega)⟩) hS0 ?_
                refine wpAnyH_take (i := 3) (v := .slice (some ⟨lb, loff, none⟩) i lc) rfl (by kernel_rfl) (by kernel_rfl) (by kernel_rfl) (fun _ _ _ h => h) (Or.inl ⟨by rfl, by intro W hW; go_simp; try (first | (with_reducible rfl) | omega)⟩) hS0 ?_
                refine wpAnyH_take (i := 5) (v := .slice (some ⟨lb, loff, none⟩) (i + kk + 1) lc) rfl (by kernel_rfl) (by kernel_rfl) (by kernel_rfl) (fun _ _ _ h => h) (Or.inl ⟨by rfl, by intro W hW; go_simp; try (first | (with_reducible rfl) | omega)⟩) hS0 ?_
                refine wpAnyH_take (i := 6) (v := .int .i64 i) rfl (by kernel_rfl) (by kernel_rfl) (by kernel_rfl) (fun _ _ _ h => h) (Or.inl ⟨by rfl, by intro W hW; go_simp; try (first | (with_reducible rfl) | omega)⟩) hS0 ?_
                refine wpAnyH_take (i := 7) (v := .int .i64 ((i : Int) + 1)) rfl (by kernel_rfl) (by kernel_rfl) (by kernel_rfl) (fun _ _ _ h => h) (Or.inl ⟨by rfl, by intro W hW; have hwr := HWR.out; go_simp; try (first | (with_reducible rfl) | omega)⟩) hS0 ?_
                refine wpAnyH_take (i := 8) (v := .slice (some ⟨lb, loff + (i + 1) * 3, none⟩) kk (lc - (i + 1))) rfl (by kernel_rfl) (by kernel_rfl) (by kernel_rfl) (fun _ _ _ h => h) (Or.inl ⟨by rfl, by intro W hW; go_simp; try (first | (with_reducible rfl) | omega)⟩) hS0 ?_
                have hw0 := Lib.hid (World.ownsRow_lit (base := w6.heap.size) (e := 26) (size := 3) w6.drew #[] 0 (Nat.le_refl _) (by unfold maxLen; omega) rfl)
                refine wpAnyH_one (i := 0) (by kernel_rfl) rfl (fun K hK => ?_)
                go_simp
                refine hK _ _ ⟨(hS0.alloc _), ?_⟩; clear hK K
                refine wpAnyH_one (i := 4) (by kernel_rfl) rfl (fun K hK => ?_)
                refine step_append_src _ rfl (.tmp 118) (.tmp 121) 34 rfl w6.heap.size 26 i0 (.agg #[.int .i64 0, .int .i64 0, .slice none 0 0]) 3 40 Try.underlying34 hi hz0 hz1 hz2 rfl (by decide) (.slice (some ⟨w6.drew.heap.size, 0, none⟩) 0 0) 0 [] ?qq1 hw0.out (some ⟨lb, loff, none⟩) i lc _ ?qq2 (HSR1.out _ (hS0.alloc _)).1 hone1.out hn63 hnb (hS0.alloc _).size ?_
                case qq1 => go_simp
                case qq2 => go_simp
                intro v' W2 hown hgrow hat
                rw [Nat.zero_add, List.nil_append] at hown
                obtain ⟨A2, c2, rfl, _⟩ := own_form hown
                have hS2 : Kp (fun _ => False) w6 W2 := (hS0.alloc _).ofGrown hgrow (fun j hj hl => by have h9 := (World.ownsRow.lt hw0.out j hj).1; have : j < w6.heap.size := hl; omega)
                have HW2 := Lib.hid hown
                clear hown hgrow hat
                refine hK _ _ ⟨hS2, ?_⟩; clear hK K
                refine wpAnyH_one (i := 9) (by kernel_rfl) rfl (fun K hK => ?_)
                refine step_append_src _ rfl (.tmp 122) (.tmp 126) 34 rfl w6.heap.size 26 i0 (.agg #[.int .i64 0, .int .i64 0, .slice none 0 0]) 3 40 Try.underlying34 hi hz0 hz1 hz2 rfl (by decide) (.slice A2 i c2) i _ ?qq3 HW2.out (some ⟨lb, loff + (i + 1) * 3, none⟩) kk (lc - (i + 1)) _ ?qq4 (HSR1.out _ hS2).2 hone2.out hn63' hnb' hS2.size ?_
                case qq3 => go_simp
                case qq4 => go_simp
                intro v' W4 hown4 hgrow4 hat4
                obtain ⟨A4, c4, rfl, _⟩ := own_form hown4
                have hS4 : Kp (fun _ => False) w6 W4 := hS2.ofGrown hgrow4 (fun j hj hl => by have h9 := (World.ownsRow.lt HW2.out j hj).1; have : j < w6.heap.size := hl; omega)
                have F := Lib.hid (FIN.out W4 A4 c4 hS4 hown4)
                clear hown4 hgrow4 hat4
                refine hK _ _ ⟨hS4, ?_⟩; clear hK K
                refine wpAnyH_take (i := 10) (v := .slice A4 (i + kk) c4) rfl (by kernel_rfl) (by kernel_rfl) (by kernel_rfl) (fun _ _ _ h => h) (Or.inl ⟨by rfl, by intro W hW; go_simp; try (first | (with_reducible rfl) | omega)⟩) hS4 ?_
                refine wpAnyH_done (by kernel_rfl) ?_ _
                go_wp2_with fail
                go_meet
                exact ⟨i + kk, c4, A4, by first | rfl | simp [hk0], F.out.1, F.out.2⟩
          · go_upto_region 9 with fail
            go_cut [8] (fun s8 wx => ∃ (rb ab : Nat), s8 = .pointer (some ⟨rb, 0, none⟩) ∧ Hid (R9 wa wx rb ab fr fn ⟨vk, vn, nr vr, nr vi⟩))
            case first =>
              clear HS HC H0 HE HL HA HO HM HP HB0 HPL HS2 HNOB
              refine wp_region_held (S := fun W => Kp (fun _ => False) wa W) (by kernel_rfl) ?_
              change wpAnyH _ _ _ _ _ _ _ _ (World.drew _)
              have hS0 : Kp (fun _ => False) wa wa.drew := (Kp.refl _ _).drew
              have HQ : Hid (∀ W : World, Kp (fun _ => False) wa W → W.cell? ⟨ob, 1, none⟩ = some (.int .i64 fr) ∧ W.cell? ⟨ob, 2, none⟩ = some (.int .i64 fn) ∧ W.cell? ⟨ob, 3, none⟩ = some (.int .i64 vk) ∧ W.cell? ⟨ob, 4, none⟩ = some (.int .i64 vn) ∧ W.cell? ⟨ob, 5, none⟩ = some (.int .i64 vr) ∧ W.cell? ⟨ob, 6, none⟩ = some (.int .i64 vi)) := Lib.hid fun W hW => ⟨hW.cellv (HOB.out 1 _ rfl) id, hW.cellv (HOB.out 2 _ rfl) id, hW.cellv (HOB.out 3 _ rfl) id, hW.cellv (HOB.out 4 _ rfl) id, hW.cellv (HOB.out 5 _ rfl) id, hW.cellv (HOB.out 6 _ rfl) id⟩
              refine wpAnyH_take (i := 0) (v := .pointer (some ⟨ob, 1, none⟩)) rfl (by kernel_rfl) (by kernel_rfl) (by kernel_rfl) (fun _ _ _ h => h) (Or.inl ⟨by rfl, by intro W hW; go_simp; try (first | (with_reducible rfl) | omega)⟩) hS0 ?_
              refine wpAnyH_take (i := 1) (v := .int .i64 fr) rfl (by kernel_rfl) (by kernel_rfl) (by kernel_rfl) (fun _ _ _ h => h) (Or.inl ⟨by rfl, by intro W hW; obtain ⟨g1, g2, g3, g4, g5, g6⟩ := HQ.out W hW; go_simp; try (first | (with_reducible rfl) | omega)⟩) hS0 ?_
              refine wpAnyH_take (i := 2) (v := .pointer (some ⟨ob, 2, none⟩)) rfl (by kernel_rfl) (by kernel_rfl) (by kernel_rfl) (fun _ _ _ h => h) (Or.inl ⟨by rfl, by intro W hW; go_simp; try (first | (with_reducible rfl) | omega)⟩) hS0 ?_
              refine wpAnyH_take (i := 3) (v := .int .i64 fn) rfl (by kernel_rfl) (by kernel_rfl) (by kernel_rfl) (fun _ _ _ h => h) (Or.inl ⟨by rfl, by intro W hW; obtain ⟨g1, g2, g3, g4, g5, g6⟩ := HQ.out W hW; go_simp; try (first | (with_reducible rfl) | omega)⟩) hS0 ?_
              refine wpAnyH_take (i := 4) (v := .pointer (some ⟨ob, 3, none⟩)) rfl (by kernel_rfl) (by kernel_rfl) (by kernel_rfl) (fun _ _ _ h => h) (Or.inl ⟨by rfl, by intro W hW; go_simp; try (first | (with_reducible rfl) | omega)⟩) hS0 ?_
              refine wpAnyH_take (i := 5) (v := .agg #[.int .i64 vk, .int .i64 vn, .int .i64 vr, .int .i64 vi]) rfl (by kernel_rfl) (by kernel_rfl) (by kernel_rfl) (fun _ _ _ h => h) (Or.inl ⟨by rfl, by intro W hW; obtain ⟨g1, g2, g3, g4, g5, g6⟩ := HQ.out W hW; go_simp; try (first | (with_reducible rfl) | omega)⟩) hS0 ?_
              refine wpAnyH_two (i := 6) (j := 9) (by kernel_rfl) rfl rfl (fun K hK => ?_) (fun K hK => ?_)
              · go_simp
                refine Calls.mono (value_any vk vn vr vi _) ?_
                rintro e w4 ⟨rfl, hb4⟩
                have hS4 := hS0.ofBelow hb4
                go_simp
                refine hK _ _ ⟨hS4, ?_⟩; clear hK K
                refine wpAnyH_two (i := 7) (j := 9) (by kernel_rfl) rfl rfl (fun K hK => ?_) (fun K hK => ?_)
                · go_simp
                  refine hK _ _ ⟨hS4.alloc _, ?_⟩; clear hK K
                  refine wpAnyH_take (i := 8) (v := .agg #[.int .i64 fr, .int .i64 fn, .slice (some ⟨w4.heap.size, 0, none⟩) 1 1]) rfl (by kernel_rfl) (by kernel_rfl) (by kernel_rfl) (fun _ _ _ h => h) (Or.inl ⟨by rfl, by intro W hW; go_simp; try (first | (with_reducible rfl) | omega)⟩) (hS4.alloc _) ?_
                  refine wpAnyH_one (i := 9) (by kernel_rfl) rfl (fun K hK => ?_)
                  go_simp
                  refine hK _ _ ⟨((hS4.alloc _).alloc _), ?_⟩; clear hK K
                  refine wpAnyH_one (i := 10) (by kernel_rfl) rfl (fun K hK => ?_)
                  go_simp
                  refine hK _ _ ⟨((hS4.alloc _).alloc _), ?_⟩; clear hK K
                  refine wpAnyH_done (by kernel_rfl) ?_ _
                  go_wp2_with fail
                  go_meet
                  exact ⟨_, _, rfl, R9.a hS4⟩
                · go_simp
                  refine hK _ _ ⟨hS4.alloc _, ?_⟩; clear hK K
                  refine wpAnyH_one (i := 7) (by kernel_rfl) rfl (fun K hK => ?_)
                  go_simp
                  refine hK _ _ ⟨((hS4.alloc _).alloc _), ?_⟩; clear hK K
                  refine wpAnyH_take (i := 8) (v := .agg #[.int .i64 fr, .int .i64 fn, .slice (some ⟨w4.heap.size + 1, 0, none⟩) 1 1]) rfl (by kernel_rfl) (by kernel_rfl) (by kernel_rfl) (fun _ _ _ h => h) (Or.inl ⟨by rfl, by intro W hW; go_simp; try (first | (with_reducible rfl) | omega)⟩) ((hS4.alloc _).alloc _) ?_
                  refine wpAnyH_one (i := 10) (by kernel_rfl) rfl (fun K hK => ?_)
                  go_simp
                  refine hK _ _ ⟨((hS4.alloc _).alloc _), ?_⟩; clear hK K
                  refine wpAnyH_done (by kernel_rfl) ?_ _
                  go_wp2_with fail
                  go_meet
                  exact ⟨_, _, rfl, R9.b hS4⟩
              · go_simp
                refine hK _ _ ⟨hS0.alloc _, ?_⟩; clear hK K
                refine wpAnyH_one (i := 6) (by kernel_rfl) rfl (fun K hK => ?_)
                go_simp
                refine Calls.mono (value_any vk vn vr vi _) ?_
                rintro e w4 ⟨rfl, hb4⟩
                have hS4 := (hS0.alloc (.cells #[.int .i64 0, .int .i64 0, .slice none 0 0] 26)).ofBelow hb4
                go_simp
                refine hK _ _ ⟨hS4, ?_⟩; clear hK K
                have hb4 : Below (wa.alloc (.cells #[.int .i64 0, .int .i64 0, .slice none 0 0] 26)).heap.size (wa.alloc (.cells #[.int .i64 0, .int .i64 0, .slice none 0 0] 26)) w4 := ⟨hb4.os, hb4.tape, hb4.output, hb4.size, hb4.block⟩
                obtain ⟨e0, f0⟩ := new_cells hb4 0 (.int .i64 0) rfl
                obtain ⟨e1, f1⟩ := new_cells hb4 1 (.int .i64 0) rfl
                obtain ⟨e2, f2⟩ := new_cells hb4 2 (.slice none 0 0) rfl
                have hlt4 : wa.heap.size < w4.heap.size := by have := hb4.size; simp at this; omega
                refine wpAnyH_one (i := 7) (by kernel_rfl) rfl (fun K hK => ?_)
                go_simp
                refine hK _ _ ⟨(hS4.alloc _), ?_⟩; clear hK K
                refine wpAnyH_take (i := 8) (v := .agg #[.int .i64 fr, .int .i64 fn, .slice (some ⟨w4.heap.size, 0, none⟩) 1 1]) rfl (by kernel_rfl) (by kernel_rfl) (by kernel_rfl) (fun _ _ _ h => h) (Or.inl ⟨by rfl, by intro W hW; go_simp; try (first | (with_reducible rfl) | omega)⟩) (hS4.alloc _) ?_
                have HR9 := Lib.hid (R9.c (fr := fr) (fn := fn) (k := vk) (n := vn) (x := nr vr) (y := nr vi) hS4 e0 e1 e2)
                refine wpAnyH_one (i := 10) (by kernel_rfl) rfl (fun K hK => ?_)
                go_simp
                refine hK _ _ ⟨HR9.out.kp, ?_⟩; clear hK K
                refine wpAnyH_done (by kernel_rfl) ?_ _
                go_wp2_with fail
                go_meet
                exact ⟨_, _, rfl, HR9⟩
            case rest =>
              obtain ⟨rb, ab, rfl, HR⟩ := hcut
              have r0 := HR.out.r0
              have r1 := HR.out.r1
              have r2 := HR.out.r2
              have cP := Lib.hid (push_any w.heap.size c k A mo ps fr fn (some ⟨ab, 0, none⟩) 1 1 [⟨vk, vn, nr vr, nr vi⟩] wc (HP.out.on HR.out.kp) wf HR.out.sl (by decide) (by have := HPL.out; omega) (by omega))
              go_wp2_with fail
              refine cP.out.mono ?_
              rintro e w5 ⟨⟨v5, rfl⟩, A5, c5, mo5, qn, hp5, hx5, hk5, hT5⟩
              have nrb : ¬ Blk w.heap.size A mo rb := fun hB => by have := HP.out.blk_lt hB; have := HR.out.rl; omega
              have nab : ¬ Blk w.heap.size A mo ab := fun hB => by have := HP.out.blk_lt hB; have := HR.out.al; omega
              have s0 := hk5.cellv r0 nrb
              have s1 := hk5.cellv r1 nrb
              have s2 := hk5.cellv r2 nrb
              have hka5 : Kp (Blk w.heap.size A mo) wa w5 := (HR.out.kp.mono (fun _ _ h => h.elim)).trans hk5
              have hT5' : ∀ j, Blk w.heap.size A5 mo5 j → Blk w.heap.size A mo j ∨ wa.heap.size ≤ j := fun j hj => (hT5 j hj).imp id (fun h => by have := HR.out.kp.size; omega)
              have hsl5 : SlV w5 w5.heap.size (some ⟨ab, 0, none⟩) 1 1 [⟨vk, vn, nr vr, nr vi⟩] := SlR.kp HR.out.sl (Nat.le_refl _) (fun ad h => by injection h with h; subst h; exact nab) hk5
              have hok5 : Ok w5 (Blk w.heap.size A5 mo5) (some ⟨ab, 0, none⟩) := fun ad h => by
                injection h with h
                subst h
                have hal := HR.out.al
                have hs5 := hk5.size
                refine ⟨by show ab < _; omega, fun hB => ?_⟩
                rcases hT5 _ hB with h | h
                · exact nab h
                · have h : wc.heap.size ≤ ab := h
                  omega
              have hl5 : SlP w5 w5.heap.size lA n lc qs := SlR.kp HL.out (Nat.le_refl _) (fun ad h => (HO.out ad h).2) hka5
              have HL5 : Hid (∀ W : World, Kp (fun _ => False) w5 W → SrcCells W lA n 3 (qs.flatMap cellsP)) := Lib.hid fun W hW => SlR.src (sz := 3) (f := cellsP) (fun _ => rfl) (SlR.kp hl5 (Nat.le_refl _) (fun _ _ => id) hW)
              have HQ5 : Hid (∀ W : World, Kp (fun _ => False) w5 W → W.cell? ⟨rb, 0, none⟩ = some (.int .i64 fr) ∧ W.cell? ⟨rb, 1, none⟩ = some (.int .i64 fn) ∧ W.cell? ⟨rb, 2, none⟩ = some (.slice (some ⟨ab, 0, none⟩) 1 1)) := Lib.hid fun W hW => ⟨hW.cellv s0 id, hW.cellv s1 id, hW.cellv s2 id⟩
              have ob5 : w5.cell? ⟨ob, 1, none⟩ = some (.int .i64 fr) := hka5.cellv (HOB.out 1 _ rfl) HNOB.out
              have hflat : (qs ++ [PR.mk ⟨fr, fn, [⟨vk, vn, nr vr, nr vi⟩]⟩ (some ⟨ab, 0, none⟩) 1 1]).flatMap cellsP = qs.flatMap cellsP ++ [.int .i64 fr, .int .i64 fn, .slice (some ⟨ab, 0, none⟩) 1 1] := by simp [cellsP]
              have FIN : Hid (∀ (W : World) (A' : Option Addr) (c' : Nat), Kp (fun _ => False) w5 W → W.ownsRow w5.heap.size 26 3 (.slice A' (n + 1) c') (n + 1) (qs.flatMap cellsP ++ [.int .i64 fr, .int .i64 fn, .slice (some ⟨ab, 0, none⟩) 1 1]) → LS w W (t + 1) A' (n + 1) c' ∧ W.cell? ⟨ob, 1, none⟩ = some (.int .i64 fr)) := Lib.hid fun W A' c' hW hown => ⟨LS.push (c := c) (q := PR.mk ⟨fr, fn, [⟨vk, vn, nr vr, nr vi⟩]⟩ (some ⟨ab, 0, none⟩) 1 1) HBW.out HL.out HA.out HO.out HM.out hnt hkt HB0.out hp5 hx5 hka5 hT5' hsl5 hok5 hW (by rw [hflat]; exact hown) (by omega), hW.cellv ob5 id⟩
              obtain ⟨i0, hi, hz0, hz1, hz2⟩ := info_parts info_rec
              have hone1 := Lib.hid (one_flat qs)
              have hone2 : Hid (∀ u ∈ [Value.int .i64 fr, .int .i64 fn, .slice (some ⟨ab, 0, none⟩) 1 1], u.oneCell' = true) := Lib.hid (by
                intro u hu
                simp at hu
                rcases hu with rfl | rfl | rfl <;> rfl)
              have hn63 : 0 + n ≤ maxLen := by unfold maxLen; omega
              have hnb : (0 + n) * 40 ≤ 140737488355328 := by omega
              have hn63' : n + 1 ≤ maxLen := by unfold maxLen; omega
              have hnb' : (n + 1) * 40 ≤ 140737488355328 := by omega
              have hS0 : Kp (fun _ => False) w5 w5.drew := (Kp.refl _ _).drew
              clear hflat nrb nab s0 s1 s2 hka5 hT5' hsl5 hok5 hl5 ob5 hp5 hx5 hk5 hT5 cP r0 r1 r2 HR HL HA HO HM HP HB0 HPL HS2 HS HC H0 HE
              go_wp2_with fail
              refine wp_region_held (S := fun W => Kp (fun _ => False) w5 W) (by kernel_rfl) ?_
              change wpAnyH _ _ _ _ _ _ _ _ (World.drew _)
              refine wpAnyH_take (i := 1) (v := .slice lA n lc) rfl (by kernel_rfl) (by kernel_rfl) (by kernel_rfl) (fun _ _ _ h => h) (Or.inl ⟨by rfl, by intro W hW; go_simp; try (first | (with_reducible rfl) | omega)⟩) hS0 ?_
              refine wpAnyH_take (i := 3) (v := .agg #[.int .i64 fr, .int .i64 fn, .slice (some ⟨ab, 0, none⟩) 1 1]) rfl (by kernel_rfl) (by kernel_rfl) (by kernel_rfl) (fun _ _ _ h => h) (Or.inl ⟨by rfl, by intro W hW; obtain ⟨g0, g1, g2⟩ := HQ5.out W hW; go_simp; try (first | (with_reducible rfl) | omega)⟩) hS0 ?_
              refine wpAnyH_two (i := 0) (j := 4) (by kernel_rfl) rfl rfl (fun K hK => ?_) (fun K hK => ?_)
              · go_simp
                have hS1 : Kp (fun _ => False) w5 (w5.drew.alloc (.cells #[] 26)) := hS0.alloc _
                have hw0 := Lib.hid (World.ownsRow_lit (base := w5.heap.size) (e := 26) (size := 3) w5.drew #[] 0 (Nat.le_refl _) (by unfold maxLen; omega) rfl)
                refine hK _ _ ⟨hS1, ?_⟩; clear hK K
                refine wpAnyH_two (i := 2) (j := 4) (by kernel_rfl) rfl rfl (fun K hK => ?_) (fun K hK => ?_)
                · refine step_append_src _ rfl (.tmp 52) (.tmp 53) 34 rfl w5.heap.size 26 i0 (.agg #[.int .i64 0, .int .i64 0, .slice none 0 0]) 3 40 Try.underlying34 hi hz0 hz1 hz2 rfl (by decide) (.slice (some ⟨w5.drew.heap.size, 0, none⟩) 0 0) 0 [] ?qq1 hw0.out lA n lc (qs.flatMap cellsP) ?qq2 (HL5.out _ hS1) hone1.out hn63 hnb (hS1).size ?_
                  case qq1 => go_simp
                  case qq2 => go_simp
                  intro v' W2 hown hgrow hat
                  rw [Nat.zero_add, List.nil_append] at hown
                  obtain ⟨A2, c2, rfl, _⟩ := own_form hown
                  have hS2 : Kp (fun _ => False) w5 W2 := (hS1).ofGrown hgrow (fun j hj hl => by have h9 := (World.ownsRow.lt hw0.out j hj).1; have : j < w5.heap.size := hl; omega)
                  have HW2 := Lib.hid hown
                  clear hown hgrow hat
                  refine hK _ _ ⟨hS2, ?_⟩; clear hK K
                  refine wpAnyH_one (i := 4) (by kernel_rfl) rfl (fun K hK => ?_)
                  go_simp
                  refine hK _ _ ⟨(hS2.alloc _), ?_⟩; clear hK K
                  have hsrc := Lib.hid (own_src (World.ownsRow_lit (base := W2.heap.size) (e := 26) (size := 3) W2 #[.int .i64 fr, .int .i64 fn, .slice (some ⟨ab, 0, none⟩) 1 1] 1 (Nat.le_refl _) (by unfold maxLen; omega) rfl))
                  refine wpAnyH_one (i := 5) (by kernel_rfl) rfl (fun K hK => ?_)
                  refine step_append_src _ rfl (.tmp 54) (.tmp 56) 34 rfl w5.heap.size 26 i0 (.agg #[.int .i64 0, .int .i64 0, .slice none 0 0]) 3 40 Try.underlying34 hi hz0 hz1 hz2 rfl (by decide) (.slice A2 n c2) n (qs.flatMap cellsP) ?qq3 (HW2.out.alloc _) (some ⟨W2.heap.size, 0, none⟩) 1 1 [.int .i64 fr, .int .i64 fn, .slice (some ⟨ab, 0, none⟩) 1 1] ?qq4 hsrc.out hone2.out hn63' hnb' (hS2.alloc _).size ?_
                  case qq3 => go_simp
                  case qq4 => go_simp
                  intro v' W4 hown4 hgrow4 hat4
                  obtain ⟨A4, c4, rfl, _⟩ := own_form hown4
                  have hS4 : Kp (fun _ => False) w5 W4 := (hS2.alloc _).ofGrown hgrow4 (fun j hj hl => by have h9 := (World.ownsRow.lt HW2.out j hj).1; have : j < w5.heap.size := hl; omega)
                  have F := Lib.hid (FIN.out W4 A4 c4 hS4 hown4)
                  clear hown4 hgrow4 hat4
                  refine hK _ _ ⟨hS4, ?_⟩; clear hK K
                  refine wpAnyH_take (i := 6) (v := .slice A4 (n + 1) c4) rfl (by kernel_rfl) (by kernel_rfl) (by kernel_rfl) (fun _ _ _ h => h) (Or.inl ⟨by rfl, by intro W hW; go_simp; try (first | (with_reducible rfl) | omega)⟩) hS4 ?_
                  refine wpAnyH_done (by kernel_rfl) ?_ _
                  go_wp2_with fail
                  go_meet
                  exact ⟨n + 1, c4, A4, rfl, F.out.1, F.out.2⟩
                · go_simp
                  have hsrc0 := own_src (World.ownsRow_lit (base := w5.heap.size) (e := 26) (size := 3) (w5.drew.alloc (.cells #[] 26)) #[.int .i64 fr, .int .i64 fn, .slice (some ⟨ab, 0, none⟩) 1 1] 1 (by simp) (by unfold maxLen; omega) rfl)
                  rw [show (w5.drew.alloc (.cells #[] 26)).heap.size = w5.heap.size + 1 by simp] at hsrc0
                  have hsrc0 := Lib.hid hsrc0
                  refine hK _ _ ⟨hS1.alloc _, ?_⟩; clear hK K
                  refine wpAnyH_one (i := 2) (by kernel_rfl) rfl (fun K hK => ?_)
                  refine step_append_src _ rfl (.tmp 52) (.tmp 53) 34 rfl w5.heap.size 26 i0 (.agg #[.int .i64 0, .int .i64 0, .slice none 0 0]) 3 40 Try.underlying34 hi hz0 hz1 hz2 rfl (by decide) (.slice (some ⟨w5.drew.heap.size, 0, none⟩) 0 0) 0 [] ?qq1 (hw0.out.alloc _) lA n lc (qs.flatMap cellsP) ?qq2 (HL5.out _ (hS1.alloc _)) hone1.out hn63 hnb ((hS1.alloc _)).size ?_
                  case qq1 => go_simp
                  case qq2 => go_simp
                  intro v' W2 hown hgrow hat
                  rw [Nat.zero_add, List.nil_append] at hown
                  obtain ⟨A2, c2, rfl, _⟩ := own_form hown
                  have hS2 : Kp (fun _ => False) w5 W2 := ((hS1.alloc _)).ofGrown hgrow (fun j hj hl => by have h9 := (World.ownsRow.lt hw0.out j hj).1; have : j < w5.heap.size := hl; omega)
                  have HW2 := Lib.hid hown
                  have hkap : Kp (fun j => j = w5.heap.size) _ W2 := (Kp.refl _ _).ofGrown hgrow (fun j hj _ => by simp [Value.ownBlock] at hj; exact hj.symm)
                  have hsrc := Lib.hid (hsrc0.out.keep fun ad j u ha hc => hkap.cellv hc (by injection ha with ha; subst ha; simp [Addr.add]; split <;> simp))
                  clear hown hgrow hat hkap
                  refine hK _ _ ⟨hS2, ?_⟩; clear hK K
                  refine wpAnyH_one (i := 5) (by kernel_rfl) rfl (fun K hK => ?_)
                  refine step_append_src _ rfl (.tmp 54) (.tmp 56) 34 rfl w5.heap.size 26 i0 (.agg #[.int .i64 0, .int .i64 0, .slice none 0 0]) 3 40 Try.underlying34 hi hz0 hz1 hz2 rfl (by decide) (.slice A2 n c2) n (qs.flatMap cellsP) ?qq3 HW2.out (some ⟨w5.heap.size + 1, 0, none⟩) 1 1 [.int .i64 fr, .int .i64 fn, .slice (some ⟨ab, 0, none⟩) 1 1] ?qq4 hsrc.out hone2.out hn63' hnb' (hS2).size ?_
                  case qq3 => go_simp
                  case qq4 => go_simp
                  intro v' W4 hown4 hgrow4 hat4
                  obtain ⟨A4, c4, rfl, _⟩ := own_form hown4
                  have hS4 : Kp (fun _ => False) w5 W4 := (hS2).ofGrown hgrow4 (fun j hj hl => by have h9 := (World.ownsRow.lt HW2.out j hj).1; have : j < w5.heap.size := hl; omega)
                  have F := Lib.hid (FIN.out W4 A4 c4 hS4 hown4)
                  clear hown4 hgrow4 hat4
                  refine hK _ _ ⟨hS4, ?_⟩; clear hK K
                  refine wpAnyH_take (i := 6) (v := .slice A4 (n + 1) c4) rfl (by kernel_rfl) (by kernel_rfl) (by kernel_rfl) (fun _ _ _ h => h) (Or.inl ⟨by rfl, by intro W hW; go_simp; try (first | (with_reducible rfl) | omega)⟩) hS4 ?_
                  refine wpAnyH_done (by kernel_rfl) ?_ _
                  go_wp2_with fail
                  go_meet
                  exact ⟨n + 1, c4, A4, rfl, F.out.1, F.out.2⟩
              · go_simp
                have hS1 : Kp (fun _ => False) w5 (w5.drew.alloc (.cells #[.int .i64 fr, .int .i64 fn, .slice (some ⟨ab, 0, none⟩) 1 1] 26)) := hS0.alloc _
                have hsrc0 := Lib.hid (own_src (World.ownsRow_lit (base := w5.heap.size) (e := 26) (size := 3) w5.drew #[.int .i64 fr, .int .i64 fn, .slice (some ⟨ab, 0, none⟩) 1 1] 1 (Nat.le_refl _) (by unfold maxLen; omega) rfl))
                refine hK _ _ ⟨hS1, ?_⟩; clear hK K
                refine wpAnyH_one (i := 0) (by kernel_rfl) rfl (fun K hK => ?_)
                go_simp
                refine hK _ _ ⟨(hS1.alloc _), ?_⟩; clear hK K
                have hw0 := World.ownsRow_lit (base := w5.heap.size) (e := 26) (size := 3) (w5.drew.alloc (.cells #[.int .i64 fr, .int .i64 fn, .slice (some ⟨ab, 0, none⟩) 1 1] 26)) #[] 0 (by simp) (by unfold maxLen; omega) rfl
                rw [show (w5.drew.alloc (.cells #[.int .i64 fr, .int .i64 fn, .slice (some ⟨ab, 0, none⟩) 1 1] 26)).heap.size = w5.heap.size + 1 by simp] at hw0
                have hw0 := Lib.hid hw0
                refine wpAnyH_one (i := 2) (by kernel_rfl) rfl (fun K hK => ?_)
                refine step_append_src _ rfl (.tmp 52) (.tmp 53) 34 rfl w5.heap.size 26 i0 (.agg #[.int .i64 0, .int .i64 0, .slice none 0 0]) 3 40 Try.underlying34 hi hz0 hz1 hz2 rfl (by decide) (.slice (some ⟨w5.heap.size + 1, 0, none⟩) 0 0) 0 [] ?qq1 hw0.out lA n lc (qs.flatMap cellsP) ?qq2 (HL5.out _ (hS1.alloc _)) hone1.out hn63 hnb ((hS1.alloc _)).size ?_
                case qq1 => go_simp
                case qq2 => go_simp
                intro v' W2 hown hgrow hat
                rw [Nat.zero_add, List.nil_append] at hown
                obtain ⟨A2, c2, rfl, _⟩ := own_form hown
                have hS2 : Kp (fun _ => False) w5 W2 := ((hS1.alloc _)).ofGrown hgrow (fun j hj hl => by have h9 := (World.ownsRow.lt hw0.out j hj).1; have : j < w5.heap.size := hl; omega)
                have HW2 := Lib.hid hown
                have hkap : Kp (fun j => j = w5.heap.size + 1) _ W2 := (Kp.refl _ _).ofGrown hgrow (fun j hj _ => by simp [Value.ownBlock] at hj; exact hj.symm)
                have hsrc := Lib.hid ((hsrc0.out.keep fun ad j u ha hc => ((Kp.refl (fun _ => False) _).alloc (.cells #[] 26)).cellv hc id).keep fun ad j u ha hc => hkap.cellv hc (by injection ha with ha; subst ha; simp [Addr.add]; split <;> simp))
                clear hown hgrow hat hkap
                refine hK _ _ ⟨hS2, ?_⟩; clear hK K
                refine wpAnyH_one (i := 5) (by kernel_rfl) rfl (fun K hK => ?_)
                refine step_append_src _ rfl (.tmp 54) (.tmp 56) 34 rfl w5.heap.size 26 i0 (.agg #[.int .i64 0, .int .i64 0, .slice none 0 0]) 3 40 Try.underlying34 hi hz0 hz1 hz2 rfl (by decide) (.slice A2 n c2) n (qs.flatMap cellsP) ?qq3 HW2.out (some ⟨w5.heap.size, 0, none⟩) 1 1 [.int .i64 fr, .int .i64 fn, .slice (some ⟨ab, 0, none⟩) 1 1] ?qq4 hsrc.out hone2.out hn63' hnb' (hS2).size ?_
                case qq3 => go_simp
                case qq4 => go_simp
                intro v' W4 hown4 hgrow4 hat4
                obtain ⟨A4, c4, rfl, _⟩ := own_form hown4
                have hS4 : Kp (fun _ => False) w5 W4 := (hS2).ofGrown hgrow4 (fun j hj hl => by have h9 := (World.ownsRow.lt HW2.out j hj).1; have : j < w5.heap.size := hl; omega)
                have F := Lib.hid (FIN.out W4 A4 c4 hS4 hown4)
                clear hown4 hgrow4 hat4
                refine hK _ _ ⟨hS4, ?_⟩; clear hK K
                refine wpAnyH_take (i := 6) (v := .slice A4 (n + 1) c4) rfl (by kernel_rfl) (by kernel_rfl) (by kernel_rfl) (fun _ _ _ h => h) (Or.inl ⟨by rfl, by intro W hW; go_simp; try (first | (with_reducible rfl) | omega)⟩) hS4 ?_
                refine wpAnyH_done (by kernel_rfl) ?_ _
                go_wp2_with fail
                go_meet
                exact ⟨n + 1, c4, A4, rfl, F.out.1, F.out.2⟩
        case rest =>
          obtain ⟨n', lc', lA', rfl, HS3, HO3⟩ := hcut
          go_wp2_with fail
          obtain ⟨hbw3, A3, c3, mo3, k3, ps3, qs3, hp3, hl3, ha3, ho3, hm3, hn3, hk3, hB3⟩ := HS3.out
          have hlen3 : ps3.length = n' := (map_len hm3).trans hl3.1
          have hc3 : Hid (cntP ps3 fr = cntP qs3 fr) := Lib.hid (map_cnt hm3 fr)
          have HL3 := Lib.hid hl3
          have HP3 := Lib.hid hp3
          have HLEN := Lib.hid hlen3
          have hl3n : n' ≤ 1000 := by omega
          clear hbw3 hp3 hl3 ha3 ho3 hm3 hn3 hk3 hB3 hlen3
          go_loopg [13, 14] n' (fun g s i wx => ∃ (kq m : Nat), s = .int .i64 (cntP (qs3.take kq) fr) ∧ i = .int .i64 kq ∧ kq ≤ n' ∧ g = n' - kq ∧ wx = wc.drewN m)
          case atStart => exact ⟨0, 0, rfl, rfl, Nat.zero_le _, rfl, rfl⟩
          case round =>
            obtain ⟨kq, m, rfl, rfl, hkq, rfl, rfl⟩ := hrel
            by_cases hlt : kq < n'
            · obtain ⟨bq, offq, v, rfl, hbq, hxq, r0, r1, r2⟩ := slp_at HL3.out hlt
              have o1 : wc.cell? ⟨ob, 1, none⟩ = some (.int .i64 fr) := HO3.out
              have HCT := Lib.hid (cntP_take hxq fr)
              have hcl := cntP_le (qs3.take kq) fr
              have hcl2 : cntP (qs3.take kq) fr ≤ 1000 := by have := hcl.2; simp at this; omega
              have hcl0 := hcl.1
              by_cases hv : v.x.fr = fr
              · have tv : (v.x.fr == fr) = true := by simp [hv]
                have HCV : Hid (cntP (qs3.take (kq + 1)) fr = cntP (qs3.take kq) fr + 1) := Lib.hid (by rw [HCT.out, if_pos hv])
                obtain ⟨vf, hvf⟩ : ∃ x, v.x.fr = x := ⟨_, rfl⟩
                obtain ⟨cq, hcq⟩ : ∃ x, cntP (qs3.take kq) fr = x := ⟨_, rfl⟩
                rw [hvf] at r0 tv
                rw [hcq] at hcl2 hcl0 HCV
                clear r1 r2 hxq hbq hv hvf hcl HCT
                rw [hcq]
                clear hcq
                go_wp2_with fail
                go_quiet (fail)
                go_wp2_with fail
                go_roundg (n' - (kq + 1))
                case measure => omega
                case rel => exact ⟨kq + 1, _, by rw [HCV.out], by go_num, by omega, rfl, rfl⟩
              · have tv : (v.x.fr == fr) = false := by simpa using hv
                have HCV : Hid (cntP (qs3.take (kq + 1)) fr = cntP (qs3.take kq) fr) := Lib.hid (by rw [HCT.out, if_neg hv, Int.add_zero])
                obtain ⟨vf, hvf⟩ : ∃ x, v.x.fr = x := ⟨_, rfl⟩
                obtain ⟨cq, hcq⟩ : ∃ x, cntP (qs3.take kq) fr = x := ⟨_, rfl⟩
                rw [hvf] at r0 tv
                rw [hcq] at hcl2 hcl0 HCV
                clear r1 r2 hxq hbq hv hvf hcl HCT
                rw [hcq]
                clear hcq
                go_wp2_with fail
                go_quiet (fail)
                go_wp2_with fail
                go_roundg (n' - (kq + 1))
                case measure => omega
                case rel => exact ⟨kq + 1, _, by rw [HCV.out], by go_num, by omega, rfl, rfl⟩
            · have hkn : kq = n' := by omega
              subst hkn
              have hk0 : Kp (fun _ => False) wc (wc.drewN m) := (Kp.refl _ _).drewN m
              have hp4 := HP3.out.on hk0
              have d1 := pcount_any w.heap.size ps3.length c3 A3 (wc.drewN m) hp4.c0
              have d2 := pof_any w.heap.size mo3 k3 _ fr (wc.drewN m) hp4.mp wf
              rw [HLEN.out] at d1
              rw [hc3.out] at d2
              have hta : cntP (qs3.take kq) fr = cntP qs3 fr := by rw [List.take_of_length_le (by rw [HL3.out.1]; exact Nat.le_refl _)]
              have o1 : wc.cell? ⟨ob, 1, none⟩ = some (.int .i64 fr) := HO3.out
              have D1 := Lib.hid d1
              have D2 := Lib.hid d2
              have HS4 := Lib.hid (HS3.out.on hk0)
              have tn : ((kq : Int) != kq) = false := by simp
              rw [hta]
              obtain ⟨cq, hcq⟩ : ∃ x, cntP qs3 fr = x := ⟨_, rfl⟩
              rw [hcq] at D2 ⊢
              have tc : (cq != cq) = false := by simp
              clear hk0 hp4 d1 d2 hta hcq
              go_wp2_with fail
              refine D1.out.mono ?_
              rintro e w9 ⟨rfl, rfl⟩
              go_wp2_with fail
              refine D2.out.mono ?_
              rintro e w9 ⟨rfl, rfl⟩
              go_wp2_with fail
              go_roundg (cn - (t + 1))
              case measure => omega
              case rel => exact ⟨t + 1, _, _, _, rfl, by go_num, by omega, by omega, rfl, HS4⟩
    · have hexit : t = cn ∨ t = 60 := by omega
      have HB := Lib.hid HS.out.bw
      rcases hexit with rfl | rfl
      · go_wp2_with fail
        refine (defers_lives _).mono ?_
        rintro e w9 ⟨rfl, hb9⟩
        have HB9 := Lib.hid (bl_trans HB.out HB.out.size hb9)
        clear hb9
        go_wp2_with fail
        go_ret
        exact ⟨rfl, HB9.out⟩
      · have h60 : cn = 60 ∨ 60 < cn := by omega
        rcases h60 with rfl | h60
        · go_wp2_with fail
          refine (defers_lives _).mono ?_
          rintro e w9 ⟨rfl, hb9⟩
          have HB9 := Lib.hid (bl_trans HB.out HB.out.size hb9)
          clear hb9
          go_wp2_with fail
          go_ret
          exact ⟨rfl, HB9.out⟩
        · have h60' : (60 : Int) < cn := by omega
          go_wp2_with fail
          refine (defers_lives _).mono ?_
          rintro e w9 ⟨rfl, hb9⟩
          have HB9 := Lib.hid (bl_trans HB.out HB.out.size hb9)
          clear hb9
          go_wp2_with fail
          go_ret
          exact ⟨rfl, HB9.out⟩
end Go.Proofs.Ythddhipmmhihlaa
