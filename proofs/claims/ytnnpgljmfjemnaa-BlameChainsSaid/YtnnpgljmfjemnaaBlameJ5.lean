/-
  Panics: the document's Recover.
-/
import Derived.Test.YtnnpgljmfjemnaaBlameJ4
namespace Go.Proofs.Ytnnpgljmfjemnaa
open Go.RowKit
set_option linter.unusedSimpArgs false
set_option linter.unusedVariables false

theorem addr_add (b off j : Nat) : Addr.add ⟨b, off, none⟩ j = ⟨b, off + j, none⟩ := by
  unfold Addr.add
  split
  · rename_i h; subst h; rfl
  · rfl
theorem take_four {cells : List Value} {k n : Nat} {a b c d : Value} (hl : cells.length = n * 4) (hk : k < n) (h0 : cells[k * 4]? = some a) (h1 : cells[k * 4 + 1]? = some b) (h2 : cells[k * 4 + 2]? = some c) (h3 : cells[k * 4 + 3]? = some d) :
    cells.take (k * 4) ++ [a, b, c, d] = cells.take ((k + 1) * 4) := by
  rw [show (k + 1) * 4 = k * 4 + 1 + 1 + 1 + 1 by omega, List.take_add_one, List.take_add_one, List.take_add_one, List.take_add_one, h0, h1, h2, h3]
  simp
theorem rr_step {w wr w3 : World} {n k : Nat} {cells : List Value} {A : Option Addr} {c : Nat} {v' : Value} {a0 a1 a2 a3 : Value} (hl : cells.length = n * 4) (hk : k < n) (h0 : cells[k * 4]? = some a0) (h1 : cells[k * 4 + 1]? = some a1) (h2 : cells[k * 4 + 2]? = some a2) (h3 : cells[k * 4 + 3]? = some a3)
    (hb : Below w.heap.size w wr) (hown : wr.ownsRow w.heap.size 35 4 (.slice A k c) k (cells.take (k * 4)))
    (hown' : w3.ownsRow w.heap.size 35 4 v' (k + 1) (cells.take (k * 4) ++ [a0, a1, a2, a3])) (hgrow : (wr.alloc (.cells #[a0, a1, a2, a3] 35)).grownBy w3 (Value.slice A k c).ownBlock) :
    ∃ A' c', v' = .slice A' (k + 1) c' ∧ w3.ownsRow w.heap.size 35 4 (.slice A' (k + 1) c') (k + 1) (cells.take ((k + 1) * 4)) ∧ Below w.heap.size w w3 := by
  rw [take_four hl hk h0 h1 h2 h3] at hown'
  obtain ⟨A', c', hv, _⟩ := own_form hown'
  subst hv
  exact ⟨A', c', rfl, hown', Below.grown (hb.alloc hb.size _) hgrow (by simp; have := hb.size; omega) (fun j hj => (hown.lt _ hj).1)⟩
theorem rr_open {w wr : World} {c g k : Nat} {cells : List Value} {xs : List DBlame} {x : DBlame} (hf : FilX w cells xs) (hl : xs.length = k + 1) (hx : xs[k]? = some x) (hn : k + 1 ≤ 100)
    (hb : Below w.heap.size w wr) (hown : wr.ownsRow w.heap.size 35 4 (.slice (some ⟨g, 0, none⟩) (k + 1) c) (k + 1) cells) :
    SlC (wr.setCell ⟨g, k * 4 + 2, none⟩ (.bool true)) (wr.setCell ⟨g, k * 4 + 2, none⟩ (.bool true)).heap.size (some ⟨g, 0, none⟩) (k + 1) c (xs.set k { x with reco := true }) ∧ Below w.heap.size w (wr.setCell ⟨g, k * 4 + 2, none⟩ (.bool true)) := by
  have hbs : Below w.heap.size w (wr.setCell ⟨g, k * 4 + 2, none⟩ (.bool true)) := below_set hb (hown.lt _ rfl).1 _
  have hcl := hown.1
  refine ⟨filX_sl (hown.stored (k * 4 + 2) (.bool true)).1 (FilX.keep (fun i y hy => ?_) hbs) (by simpa using hl) (by unfold reachBytes; omega), hbs⟩
  have hlt := (List.getElem?_eq_some_iff.1 hy).1
  rw [List.length_set] at hlt
  by_cases hik : i = k
  · subst hik
    rw [List.getElem?_set_self (by omega)] at hy
    injection hy with hy
    subst hy
    obtain ⟨A, m, c, h⟩ := hf i x hx
    refine ⟨A, m, c, ?_, ?_, ?_, ?_, h.tr, h.ok0, h.ok1⟩
    · rw [List.getElem?_set_ne (by omega)]; exact h.h0
    · rw [List.getElem?_set_ne (by omega)]; exact h.h1
    · rw [List.getElem?_set_self (by omega)]
    · rw [List.getElem?_set_ne (by omega)]; exact h.h3
  · rw [List.getElem?_set_ne (by omega)] at hy
    obtain ⟨A, m, c, h⟩ := hf i y hy
    refine ⟨A, m, c, ?_, ?_, ?_, ?_, h.tr, h.ok0, h.ok1⟩
    · rw [List.getElem?_set_ne (by omega)]; exact h.h0
    · rw [List.getElem?_set_ne (by omega)]; exact h.h1
    · rw [List.getElem?_set_ne (by omega)]; exact h.h2
    · rw [List.getElem?_set_ne (by omega)]; exact h.h3

set_option maxRecDepth 100000 in
set_option maxHeartbeats 2000000 in
theorem refRecover_any (A : Option Addr) (n c : Nat) (xs : List DBlame) (w : World) (h : SlC w w.heap.size A n c xs) (hn : n ≤ 100) :
    Calls Try.prog 23 #[.slice A n c] w (IsRec n xs w) := by
  obtain ⟨i0, hi, hz0, hz1, hz2⟩ := info_parts info_blame
  obtain ⟨cells, s1, f1⟩ := slc_cells h
  have HL := Lib.hid h.1
  have H := Lib.hid h
  have HF := Lib.hid f1
  have hcl : Hid (cells.length = n * 4) := s1.1
  have c2 : ∀ W : World, Below w.heap.size w W → Hid (Calls Try.prog 16 #[.slice A n c] W fun e w' => e = .returned (.bool (openM xs)) ∧ W = w') := fun W hW => refOpen_any _ A n c xs W (SlR.below stable_Blame h hW) hn
  have S1 := Lib.hid s1
  clear h f1 s1
  go_enter Try.func23, Try.ntmps23
  go_wp2
  go_loopw [5, 6] (fun o i wr => ∃ (k : Nat) (A1 : Option Addr) (cc : Nat), o = .slice A1 k cc ∧ i = .int .i64 k ∧ k ≤ n ∧ wr.ownsRow w.heap.size 35 4 (.slice A1 k cc) k (cells.take (k * 4)) ∧ Below w.heap.size w wr) (fun _ i _ => n - (intOf i).toNat)
  case atStart => exact ⟨0, none, 0, rfl, rfl, Nat.zero_le _, World.ownsRow_nil _ _ _ _, Below.refl _ _⟩
  case round =>
    obtain ⟨k, A1, cc, rfl, rfl, hk, hown, hbw⟩ := hrel
    have HW := Lib.hid hbw
    have HO := Lib.hid hown
    clear hown hbw
    by_cases hlt : k < n
    · obtain ⟨b, off, x, A0, n0, c0, rfl, hb, hx, _⟩ := SlR.cell4 H.out hlt
      obtain ⟨A9, n9, c9, a9⟩ := HF.out k x hx
      have q0 : wr.cell? ⟨b, off + k * 4, none⟩ = some (.int .i64 x.kind) := (HW.out.cell hb).trans (by have := S1.out.2.2 ⟨b, off, none⟩ rfl _ _ a9.h0; rw [addr_add] at this; exact this)
      have q1 : wr.cell? ⟨b, off + k * 4 + 1, none⟩ = some (.int .i64 x.num) := (HW.out.cell hb).trans (by have := S1.out.2.2 ⟨b, off, none⟩ rfl _ _ a9.h1; rw [addr_add, ← Nat.add_assoc] at this; exact this)
      have q2 : wr.cell? ⟨b, off + k * 4 + 2, none⟩ = some (.bool x.reco) := (HW.out.cell hb).trans (by have := S1.out.2.2 ⟨b, off, none⟩ rfl _ _ a9.h2; rw [addr_add, ← Nat.add_assoc] at this; exact this)
      have q3 : wr.cell? ⟨b, off + k * 4 + 3, none⟩ = some (.slice A9 n9 c9) := (HW.out.cell hb).trans (by have := S1.out.2.2 ⟨b, off, none⟩ rfl _ _ a9.h3; rw [addr_add, ← Nat.add_assoc] at this; exact this)
      obtain ⟨x0, hx0⟩ : ∃ z, x.kind = z := ⟨_, rfl⟩
      obtain ⟨x1, hx1⟩ : ∃ z, x.num = z := ⟨_, rfl⟩
      obtain ⟨x2, hx2⟩ : ∃ z, x.reco = z := ⟨_, rfl⟩
      have g0 := a9.h0
      have g1 := a9.h1
      have g2 := a9.h2
      have g3 := a9.h3
      rw [hx0] at q0 g0
      rw [hx1] at q1 g1
      rw [hx2] at q2 g2
      have G0 := Lib.hid g0
      have G1 := Lib.hid g1
      have G2 := Lib.hid g2
      have G3 := Lib.hid g3
      have hsz : w.heap.size ≤ (wr.alloc (.cells #[.int .i64 x0, .int .i64 x1, .bool x2, .slice A9 n9 c9] 35)).heap.size := by have := HW.out.size; simp; omega
      have hsrc : Hid (SrcCells (wr.alloc (.cells #[.int .i64 x0, .int .i64 x1, .bool x2, .slice A9 n9 c9] 35)) (some ⟨wr.heap.size, 0, none⟩) 1 4 [.int .i64 x0, .int .i64 x1, .bool x2, .slice A9 n9 c9]) :=
        own_src (World.ownsRow_lit (base := wr.heap.size) (e := 35) (size := 4) wr #[.int .i64 x0, .int .i64 x1, .bool x2, .slice A9 n9 c9] 1 (Nat.le_refl _) (by unfold maxLen; omega) rfl)
      have hone : Hid (∀ u ∈ [Value.int .i64 x0, .int .i64 x1, .bool x2, .slice A9 n9 c9], u.oneCell' = true) := by
        intro u hu
        simp at hu
        rcases hu with rfl | rfl | rfl | rfl <;> rfl
      clear a9 g0 g1 g2 g3 hx0 hx1 hx2 hx hb
      go_wp2_with (first
        | (at_builtin; go_must (refine wpList_append_src _ rfl _ _ 22 rfl w.heap.size 35 i0 (.agg #[.int .i64 0, .int .i64 0, .bool false, .slice none 0 0]) 4 48 Try.underlying22 hi hz0 hz1 hz2 rfl (by decide) _ _ _ rfl (HO.out.alloc _) (some ⟨wr.heap.size, 0, none⟩) 1 1 [.int .i64 x0, .int .i64 x1, .bool x2, .slice A9 n9 c9] rfl hsrc.out hone.out (by unfold maxLen; omega) (by omega) hsz ?_)
           intro v' w3 hown' hgrow3 hat3
           obtain ⟨A', c', rfl, o3, b3⟩ := rr_step hcl.out hlt G0.out G1.out G2.out G3.out HW.out HO.out hown' hgrow3
           have O3 := Lib.hid o3
           have B3 := Lib.hid b3
           clear hown' hgrow3 hat3 o3 b3))
      go_roundw
      case rel => exact ⟨k + 1, A', c', rfl, by go_num, by omega, O3.out, B3.out⟩
      case measure => simp [intOf]; omega
    · have hkn : k = n := by omega
      subst hkn
      have hown : wr.ownsRow w.heap.size 35 4 (.slice A1 k cc) k cells := by
        have := HO.out
        rw [List.take_of_length_le (by rw [hcl.out]; exact Nat.le_refl _)] at this
        exact this
      have c2 := c2 wr HW.out
      rcases Bool.eq_false_or_eq_true (openM xs) with ho | ho
      · obtain ⟨x, hx, hr⟩ : ∃ x, lastB xs = some x ∧ x.reco = false := by
          unfold openM at ho
          split at ho
          · rename_i x hx; exact ⟨x, hx, by simpa using ho⟩
          · cases ho
        have hl := HL.out
        have hlt : xs.length - 1 < xs.length := (List.getElem?_eq_some_iff.1 hx).1
        obtain ⟨m, rfl⟩ : ∃ m, k = m + 1 := ⟨k - 1, by omega⟩
        have hxk : xs[m]? = some x := by unfold lastB at hx; rw [hl, Nat.add_sub_cancel] at hx; exact hx
        have e1 : kindM xs = x.kind := by unfold kindM; rw [hx]; simp [hr]
        have e2 : numM xs = x.num := by unfold numM; rw [hx]; simp [hr]
        have e3 : recM xs = xs.set m { x with reco := true } := by unfold recM; rw [hx, hl, Nat.add_sub_cancel]; simp [hr]
        rw [ho] at c2
        have K1 := Lib.hid e1
        have K2 := Lib.hid e2
        have K3 := Lib.hid e3
        obtain ⟨A2, c2', hv, hA0, hA1⟩ := own_form hown
        simp only [Value.slice.injEq, true_and] at hv
        obtain ⟨rfl, rfl⟩ := hv
        obtain ⟨ad, rfl⟩ : ∃ ad, A1 = some ad := by
          cases A1 with
          | none => exact absurd (hA0 rfl) (by omega)
          | some ad => exact ⟨ad, rfl⟩
        obtain ⟨g, rfl, hgw, hgl⟩ := hA1 ad rfl
        obtain ⟨b, off, y, A0, n0, c0, rfl, hb, hy, p0, p1, _, _, _⟩ := SlR.cell4 H.out (show m < m + 1 by omega)
        rw [hxk] at hy
        injection hy with hy
        subst hy
        have q0 : wr.cell? ⟨b, off + m * 4, none⟩ = some (.int .i64 x.kind) := (HW.out.cell hb).trans p0
        have q1 : wr.cell? ⟨b, off + m * 4 + 1, none⟩ = some (.int .i64 x.num) := (HW.out.cell hb).trans p1
        have hcl' := hown.1
        obtain ⟨u2, d2⟩ : ∃ u, wr.cell? ⟨g, m * 4 + 2, none⟩ = some u := by
          have := hown.cellAt (m * 4 + 2) (by omega)
          exact ⟨_, this.trans (List.getElem?_eq_getElem (by omega))⟩
        have f2 := hown.frozenAt (m * 4 + 2)
        have X := Lib.hid (rr_open (c := cc) HF.out hl hxk hn HW.out hown)
        have hne : ¬ g = b := by omega
        have hne' : ¬ b = g := by omega
        obtain ⟨x0, hx0⟩ : ∃ z, x.kind = z := ⟨_, rfl⟩
        obtain ⟨x1, hx1⟩ : ∃ z, x.num = z := ⟨_, rfl⟩
        rw [hx0] at q0
        rw [hx1] at q1
        have E0 := Lib.hid hx0
        have E1 := Lib.hid hx1
        clear hown hcl' hx0 hx1 e1 e2 e3 hx hr hxk ho hlt hl p0 p1 hA0 hA1 hgw hgl hb
        have hpos : (0 : Int) < ((m + 1 : Nat) : Int) := by omega
        go_wp2_with fail
        refine Calls.mono c2.out ?_
        rintro e w2 ⟨rfl, rfl⟩
        clear c2
        go_wp2_with fail
        go_quiet (fail)
        go_wp2
        go_ret3
        refine ⟨_, _, by rw [K1.out, K2.out, E0.out, E1.out]; rfl, by rw [K3.out]; exact slc_drewN X.out.1 _, below_drewN' X.out.2 _⟩
      · have hz : kindM xs = 0 ∧ numM xs = 0 ∧ recM xs = xs := by
          unfold openM at ho
          unfold kindM numM recM
          split at ho
          · rename_i x hx
            have hr : x.reco = true := by simpa using ho
            simp [hr]
          · exact ⟨rfl, rfl, rfl⟩
        rw [ho] at c2
        have HZ := Lib.hid hz
        have X := Lib.hid (filX_sl hown (HF.out.keep HW.out) HL.out (by unfold reachBytes; omega))
        clear hown hz ho
        go_wp2_with fail
        refine Calls.mono c2.out ?_
        rintro e w2 ⟨rfl, rfl⟩
        clear c2
        go_wp2_with fail
        go_ret3
        exact ⟨_, _, by rw [HZ.out.1, HZ.out.2.1]; rfl, by rw [HZ.out.2.2]; exact X.out, HW.out⟩
end Go.Proofs.Ytnnpgljmfjemnaa
