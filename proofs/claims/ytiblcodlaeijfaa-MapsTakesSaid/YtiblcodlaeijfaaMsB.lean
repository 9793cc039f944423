/-
  Tables of sets: the table that bytes begin with, by the document.
-/
import Derived.Test.YtiblcodlaeijfaaMsA
import Derived.Test.YtiblcodlaeijfaaMs9
import Derived.Test.YtiblcodlaeijfaaMs4
import Derived.Test.YtiblcodlaeijfaaHeld
import Derived.BigQuiet
import Derived.Deep.RegionHeld
namespace Go.Proofs.Ytiblcodlaeijfaa
open Go.RowKit
set_option linter.unusedSimpArgs false
set_option linter.unusedVariables false
def IsTabD (B : Nat) (R : List W4 × List Nat × Nat) (w : World) (e' : Ending) (w' : World) : Prop :=
  ∃ A k c, ∃ p : CurP, e' = .returned (.tuple #[.slice A k c, curV p.A p.n p.c p.e]) ∧ R.1.length = k ∧ w'.ownsRow (w.heap.size + 2) 41 4 (.slice A k c) k (R.1.flatMap cellsW) ∧ SlB w' B p.A p.n p.c p.l ∧ p.l = R.2.1 ∧ p.e = R.2.2 ∧ Below w.heap.size w w'
theorem DocJ.res {w : World} {B : Nat} {p : CurP} {A : Option Addr} {k c : Nat} {xs : List W4} {b : Nat} {q : CurP} {W : World} (h : DocJ w B p A k c xs b q W) (v0 v1 : Value) :
    SlB ((W.setCell ⟨w.heap.size + 1, 0, none⟩ v0).setCell ⟨w.heap.size + 1, 1, none⟩ v1) B q.A q.n q.c q.l ∧ Below w.heap.size w ((W.setCell ⟨w.heap.size + 1, 0, none⟩ v0).setCell ⟨w.heap.size + 1, 1, none⟩ v1) := by
  have k2 : Kp (fun j => j = w.heap.size + 1) W ((W.setCell ⟨w.heap.size + 1, 0, none⟩ v0).setCell ⟨w.heap.size + 1, 1, none⟩ v1) := (kp_set _ _ _ _).trans (kp_set _ _ _ _)
  have hB := h.d.hB
  exact ⟨slb_keep h.qs (fun j hj => by omega) k2, h.d.bw.trans (k2.below h.d.bw.size fun j hj => by omega)⟩
theorem DocW.res {w : World} {B : Nat} {p : CurP} {A : Option Addr} {k c : Nat} {xs : List W4} {W : World} (h : DocW w B p A k c xs W) (v0 v1 : Value) :
    ((W.setCell ⟨w.heap.size + 1, 0, none⟩ v0).setCell ⟨w.heap.size + 1, 1, none⟩ v1).ownsRow (w.heap.size + 2) 41 4 (.slice A k c) k (xs.flatMap cellsW) ∧ SlB ((W.setCell ⟨w.heap.size + 1, 0, none⟩ v0).setCell ⟨w.heap.size + 1, 1, none⟩ v1) B p.A p.n p.c p.l ∧ Below w.heap.size w ((W.setCell ⟨w.heap.size + 1, 0, none⟩ v0).setCell ⟨w.heap.size + 1, 1, none⟩ v1) := by
  have k2 : Kp (fun j => j = w.heap.size + 1) W ((W.setCell ⟨w.heap.size + 1, 0, none⟩ v0).setCell ⟨w.heap.size + 1, 1, none⟩ v1) := (kp_set _ _ _ _).trans (kp_set _ _ _ _)
  have hB := h.hB
  exact ⟨k2.own h.own (fun j hj hs => by have := (h.lt hj).1; have hs' : j = w.heap.size + 1 := hs; omega), slb_keep h.ps (fun j hj => by omega) k2, h.bw.trans (k2.below h.bw.size fun j hj => by omega)⟩
theorem drew_below (W : World) (n : Nat) : Below W.heap.size W (W.drewN n) := below_drewN' (Below.refl _ _) n
def lenOf : Value → Nat
  | .slice _ k _ => k
  | _ => 0
def eAt (b : Nat) (W : World) : Nat := match W.cell? ⟨b, 1, none⟩ with
  | some (.int _ x) => if x = 0 then 1 else 0
  | _ => 0
set_option maxRecDepth 100000 in
set_option maxHeartbeats 4000000 in
theorem rTake_neg (A0 : Option Addr) (n0 c0 B : Nat) (n : Int) (l : List Nat) (many : Int) (w : World) (h : SlB w B A0 n0 c0 l) (hB : B ≤ w.heap.size) (hn : n < 0) : Calls Try.prog 6 #[curV A0 n0 c0 0, .int .i64 n, .int .i64 many] w (IsTabD B ([], l, 0) w) := by
  obtain ⟨w0, hw0⟩ : ∃ W, (w.alloc (.cells #[.slice A0 n0 c0, .int .i64 0] 29)).alloc (.cells #[.slice none 0 0, .int .i64 0] 29) = W := ⟨_, rfl⟩
  have k0 : Kp (fun _ => False) w w0 := by rw [← hw0]; exact ((Kp.refl _ _).alloc _).alloc _
  have HO : Hid (DocW w B ⟨A0, n0, c0, 0, l⟩ none 0 0 [] w0) := by
    refine Lib.hid ⟨rfl, own_nilW _ _, ?_, ?_, slb_keep h (fun _ h => h.elim) k0, k0.below (Nat.le_refl _) (fun _ h => h.elim), hB⟩
    · rw [← hw0]
      exact (Cells.new w [.slice A0 n0 c0, .int .i64 0] _).kp ((Kp.refl (fun _ => False) _).alloc _) id
    · rw [← hw0]
      have := Cells.new (w.alloc (.cells #[.slice A0 n0 c0, .int .i64 0] 29)) [.slice none 0 0, .int .i64 0] 29
      have e : (w.alloc (.cells #[.slice A0 n0 c0, .int .i64 0] 29)).heap.size = w.heap.size + 1 := by simp
      rw [e] at this
      exact this
  have HE0 := Lib.hid hw0
  clear h hw0 k0
  have hnn : ¬ (0 : Int) < n := by omega
  unfold curV
  go_enter Try.func6, Try.ntmps6
  go_wp2_with fail
  rw [HE0.out]
  clear HE0
  have HW := HO
  have hlen : ([] : List W4).length = 0 := rfl
  have p0 : w0.cell? ⟨w.heap.size, 0, none⟩ = some (.slice A0 n0 c0) := HW.out.pc.at_ 0 _ rfl
  have p1 : w0.cell? ⟨w.heap.size, 1, none⟩ = some (.int .i64 0) := HW.out.pc.at_ 1 _ rfl
  have z0 : w0.cell? ⟨w.heap.size + 1, 0, none⟩ = some (.slice none 0 0) := HW.out.zc.at_ 0 _ rfl
  have z1 : w0.cell? ⟨w.heap.size + 1, 1, none⟩ = some (.int .i64 0) := HW.out.zc.at_ 1 _ rfl
  have fz0 := HW.out.zc.fz 0 (by simp)
  have fz1 := HW.out.zc.fz 1 (by simp)
  refine wp_loop_rounds 1 ?_
  rw [rounds_succ]
  go_wp2_with fail
  refine wp_region_held (S := fun W => Kp (fun j => j = w.heap.size + 1) w0 W) (by kernel_rfl) ?_
  change wpAnyH _ _ _ _ _ _ _ _ (World.drew _)
  have hS0 : Kp (fun j => j = w.heap.size + 1) w0 w0.drew := (Kp.refl _ _).drew
  refine wpAnyH_take (i := 0) (v := .slice none 0 0) rfl (by kernel_rfl) (by kernel_rfl) (by kernel_rfl) (fun _ _ _ h => h) (Or.inl ⟨by rfl, by intro W hW; go_simp; try (first | (with_reducible rfl) | omega)⟩) hS0 ?_
  refine wpAnyH_take (i := 1) (v := .agg #[.slice A0 n0 c0, .int .i64 (0)]) rfl (by kernel_rfl) (by kernel_rfl) (by kernel_rfl) (fun _ _ _ h => h) (Or.inl ⟨by rfl, by intro W hW; have g0 := hW.cellv p0 (show ¬ w.heap.size = w.heap.size + 1 by omega); have g1 := hW.cellv p1 (show ¬ w.heap.size = w.heap.size + 1 by omega); go_simp; try (first | (with_reducible rfl) | omega)⟩) hS0 ?_
  refine wpAnyH_take (i := 2) (v := .slice none 0 0) rfl (by kernel_rfl) (by kernel_rfl) (by kernel_rfl) (fun _ _ _ h => h) (Or.inl ⟨by rfl, by intro W hW; go_simp; try (first | (with_reducible rfl) | omega)⟩) hS0 ?_
  refine wpAnyH_one (i := 3) (by kernel_rfl) rfl (fun K hK => ?_)
  go_simp
  refine hK _ _ ⟨(hS0.setCell (p := ⟨w.heap.size + 1, 0, none⟩) (fun _ => rfl) _).setCell (p := ⟨w.heap.size + 1, 1, none⟩) (fun _ => rfl) _, ?_⟩; clear hK K
  refine wpAnyH_done (by kernel_rfl) ?_ _
  go_simp
  go_wp2_with fail
  have HR9 := (HW.out.on (show Below w0.heap.size w0 w0.drew from (Below.refl _ _).drew)).res (.slice A0 n0 c0) (.int .i64 (0))
  refine bodyPost_ret (v := .tuple #[.slice none 0 0, .agg #[.slice A0 n0 c0, .int .i64 (0)]]) (by simp [results, Try.results6, go_sem, z0, z1]) rfl ?_
  exact ⟨none, 0, 0, ⟨A0, n0, c0, 0, l⟩, rfl, hlen, HR9.1, HR9.2.1, rfl, rfl, HR9.2.2⟩
set_option maxRecDepth 100000 in
set_option maxHeartbeats 16000000 in
theorem rTake_nat (A0 : Option Addr) (n0 c0 B N : Nat) (l : List Nat) (many : Int) (w : World) (h : SlB w B A0 n0 c0 l) (hB : B ≤ w.heap.size) (hN : N ≤ 200) (hm0 : -9223372036854775808 ≤ many) (hm1 : many < 9223372036854775808) : Calls Try.prog 6 #[curV A0 n0 c0 0, .int .i64 (N : Int), .int .i64 many] w (IsTabD B (tabM N many N [] l) w) := by
  obtain ⟨i0, hi, hz0, hz1, hz2⟩ := info_parts info_set
  obtain ⟨R, hR⟩ : ∃ R, tabM N many N [] l = R := ⟨_, rfl⟩
  rw [hR]
  have HR0 : Hid (TabR N many [] l R) := Lib.hid ⟨N, by simp, hR⟩
  obtain ⟨w0, hw0⟩ : ∃ W, (w.alloc (.cells #[.slice A0 n0 c0, .int .i64 0] 29)).alloc (.cells #[.slice none 0 0, .int .i64 0] 29) = W := ⟨_, rfl⟩
  have k0 : Kp (fun _ => False) w w0 := by rw [← hw0]; exact ((Kp.refl _ _).alloc _).alloc _
  have HO : Hid (DocW w B ⟨A0, n0, c0, 0, l⟩ none 0 0 [] w0) := by
    refine Lib.hid ⟨rfl, own_nilW _ _, ?_, ?_, slb_keep h (fun _ h => h.elim) k0, k0.below (Nat.le_refl _) (fun _ h => h.elim), hB⟩
    · rw [← hw0]
      exact (Cells.new w [.slice A0 n0 c0, .int .i64 0] _).kp ((Kp.refl (fun _ => False) _).alloc _) id
    · rw [← hw0]
      have := Cells.new (w.alloc (.cells #[.slice A0 n0 c0, .int .i64 0] 29)) [.slice none 0 0, .int .i64 0] 29
      have e : (w.alloc (.cells #[.slice A0 n0 c0, .int .i64 0] 29)).heap.size = w.heap.size + 1 := by simp
      rw [e] at this
      exact this
  have HE0 := Lib.hid hw0
  have cr := Lib.hid (fun w => rrange_any 0 many w (by omega) (by omega))
  clear hR h hw0 k0
  unfold curV
  go_enter Try.func6, Try.ntmps6
  go_wp2_with fail
  rw [HE0.out]
  clear HE0
  go_loopw [8] (fun o wr => ∃ (xs : List W4) (pA : Option Addr) (pn pc pe : Nat) (pl : List Nat) (A : Option Addr) (k c : Nat), o = .slice A k c ∧ k ≤ N ∧ Hid (DocW w B ⟨pA, pn, pc, pe, pl⟩ A k c xs wr) ∧ Hid (pe = 0 ∧ TabR N many xs pl R ∨ pe ≠ 0 ∧ R = ([], pl, pe))) (fun o W => 2 * (N - lenOf o) + eAt w.heap.size W)
  case atStart => exact ⟨[], A0, n0, c0, 0, l, none, 0, 0, rfl, Nat.zero_le _, HO, Lib.hid (.inl ⟨rfl, HR0.out⟩)⟩
  case round =>
    obtain ⟨xs, pA, pn, pc, pe, pl, A, k, c, rfl, hk, HW, HR⟩ := hrel
    have hlen := HW.out.len
    have p0 : wr.cell? ⟨w.heap.size, 0, none⟩ = some (.slice pA pn pc) := HW.out.pc.at_ 0 _ rfl
    have p1 : wr.cell? ⟨w.heap.size, 1, none⟩ = some (.int .i64 (pe : Int)) := HW.out.pc.at_ 1 _ rfl
    have z0 : wr.cell? ⟨w.heap.size + 1, 0, none⟩ = some (.slice none 0 0) := HW.out.zc.at_ 0 _ rfl
    have z1 : wr.cell? ⟨w.heap.size + 1, 1, none⟩ = some (.int .i64 0) := HW.out.zc.at_ 1 _ rfl
    have fz0 := HW.out.zc.fz 0 (by simp)
    have fz1 := HW.out.zc.fz 1 (by simp)
    by_cases he : pe = 0
    · subst he
      obtain ⟨_, HT⟩ := HR.out.resolve_right (fun h => h.1 rfl)
      have HT := Lib.hid HT
      clear HR
      have HEA : Hid (eAt w.heap.size wr = 1) := Lib.hid (by unfold eAt; rw [p1]; rfl)
      by_cases hlt : k < N
      · have hkN : (k : Int) < (N : Int) := by omega
        have hxl : xs.length < N := by omega
        obtain ⟨left, hleft⟩ : ∃ left, N - k = left := ⟨_, rfl⟩
        have hl200 : left ≤ 200 := by omega
        have hkl : k + left ≤ N := by omega
        have hwr : IntKind.i64.wrap ((N : Int) - (k : Int)) = (left : Int) := by rw [IntKind.wrap_i64]; omega
        obtain ⟨r, hr⟩ : ∃ r, takeM pl 0 left many (lkO xs) = r := ⟨_, rfl⟩
        have HX : Hid (takeM pl 0 (N - xs.length) many (lkO xs) = r) := Lib.hid (by rw [hlen, hleft]; exact hr)
        obtain ⟨⟨u, l1, e1⟩, ha⟩ : ∃ r, bitsM pl 0 = r := ⟨_, rfl⟩
        obtain ⟨⟨x0, l2, e2⟩, hb0⟩ : ∃ r, bitsM l1 (manyM u e1 left) = r := ⟨_, rfl⟩
        obtain ⟨⟨x1, l3, e3⟩, hb1⟩ : ∃ r, bitsM l2 e2 = r := ⟨_, rfl⟩
        obtain ⟨⟨x2, l4, e4⟩, hb2⟩ : ∃ r, bitsM l3 e3 = r := ⟨_, rfl⟩
        obtain ⟨⟨x3, l5, e5⟩, hb3⟩ : ∃ r, bitsM l4 e4 = r := ⟨_, rfl⟩
        have hT : r = ⟨u, ⟨x0, x1, x2, x3⟩, l5, if insW ⟨x0, x1, x2, x3⟩ (rangeM 0 many) = true then (if lkO xs ⟨x0, x1, x2, x3⟩ = true then failM e5 5 else e5) else failM (if lkO xs ⟨x0, x1, x2, x3⟩ = true then failM e5 5 else e5) 14⟩ := by
          rw [← hr]
          unfold takeM
          simp only [ha, hb0, hb1, hb2, hb3]
        have HRT := Lib.hid hT
        have hBw : B ≤ wr.heap.size := by have := HW.out.hB; have := HW.out.bw.size; omega
        have ca := ref_bits pA pn pc 0 B pl wr HW.out.ps hBw
        rw [ha] at ca
        have CA := Lib.hid ca
        have hps := HW.out.ps.2
        have hu64 : u < 18446744073709551616 := by have := bitsM_lt (e := 0) hps; rw [ha] at this; exact this
        have HU : Hid (e1 ≠ 0 → u = 0) := Lib.hid fun h1 => by
          unfold bitsM at ha
          rw [if_pos rfl] at ha
          split at ha
          · injection ha with ha hb0
            injection hb0 with hc hd
            exact absurd hd.symm h1
          · injection ha with ha hb0
            exact ha.symm
        clear ca ha hT hr hleft hps
        unfold curV at CA
        go_wp2_with fail
        refine CA.out.mono ?_
        rintro e' w2 ⟨A1, n1, c1, rfl, hs1, hb2'⟩
        have HW2 := Lib.hid (HW.out.on hb2')
        have HB2 := Lib.hid hb2'
        have HS1 := Lib.hid hs1
        clear CA hb2' hs1 HW p0 p1 z0 z1 fz0 fz1
        have z0 : w2.cell? ⟨w.heap.size + 1, 0, none⟩ = some (.slice none 0 0) := HW2.out.zc.at_ 0 _ rfl
        have z1 : w2.cell? ⟨w.heap.size + 1, 1, none⟩ = some (.int .i64 0) := HW2.out.zc.at_ 1 _ rfl
        have fz0 := HW2.out.zc.fz 0 (by simp)
        have fz1 := HW2.out.zc.fz 1 (by simp)
        have HJ := Lib.hid (HW2.out.toJ' ⟨A1, n1, c1, e1, l1⟩ HS1.out)


        by_cases he1 : e1 = 0
        · subst he1
          by_cases hu : u = 0
          · have q2 : ((u : Int) == 0) = true := by simp [hu]
            have hm5 : manyM u 0 left = 5 := by simp [manyM, hu]
            have HEE : Hid (¬ TR.e ⟨u, ⟨x0, x1, x2, x3⟩, l5, if insW ⟨x0, x1, x2, x3⟩ (rangeM 0 many) = true then (if lkO xs ⟨x0, x1, x2, x3⟩ = true then failM e5 5 else e5) else failM (if lkO xs ⟨x0, x1, x2, x3⟩ = true then failM e5 5 else e5) 14⟩ = 0) ∧ l5 = l1 ∧ e5 = 5 := by
              rw [hm5] at hb0
              simp only [bitsM] at hb0
              rw [if_neg (by decide)] at hb0
              injection hb0 with ha hb0
              injection hb0 with hc hd
              subst ha hc hd
              simp only [bitsM] at hb1
              rw [if_neg (by decide)] at hb1
              injection hb1 with ha hb0
              injection hb0 with hc hd
              subst ha hc hd
              simp only [bitsM] at hb2
              rw [if_neg (by decide)] at hb2
              injection hb2 with ha hb0
              injection hb0 with hc hd
              subst ha hc hd
              simp only [bitsM] at hb3
              rw [if_neg (by decide)] at hb3
              injection hb3 with ha hb0
              injection hb0 with hc hd
              subst ha hc hd
              refine ⟨Lib.hid ?_, rfl, rfl⟩
              show ¬ (if _ then (if _ then failM 5 5 else 5) else failM (if _ then failM 5 5 else 5) 14) = 0
              split <;> split <;> decide
            obtain ⟨HEE, hl5, he5⟩ := HEE
            subst hl5 he5
            have HRR : Hid ((([] : List W4), l5, if insW ⟨x0, x1, x2, x3⟩ (rangeM 0 many) = true then (if lkO xs ⟨x0, x1, x2, x3⟩ = true then failM 5 5 else 5) else failM (if lkO xs ⟨x0, x1, x2, x3⟩ = true then failM 5 5 else 5) 14) = (([] : List W4), l5, 5)) := Lib.hid (by congr 2; split <;> split <;> decide)
            clear hb0 hb1 hb2 hb3
            go_wp2_with fail
            refine (ref_Fail A1 n1 c1 0 5 _).mono ?_
            rintro e' w3 ⟨rfl, hb3⟩
            have HJ3 := Lib.hid (HJ.out.on hb3)
            clear HJ hb3 z0 z1 fz0 fz1
            unfold curV failM
            rw [if_pos rfl]
            have z0 : w3.cell? ⟨w.heap.size + 1, 0, none⟩ = some (.slice none 0 0) := HJ3.out.d.zc.at_ 0 _ rfl
            have z1 : w3.cell? ⟨w.heap.size + 1, 1, none⟩ = some (.int .i64 0) := HJ3.out.d.zc.at_ 1 _ rfl
            have fz0 := HJ3.out.d.zc.fz 0 (by simp)
            have fz1 := HJ3.out.d.zc.fz 1 (by simp)
            have hbad := HT.out.bad hxl HX.out (by rw [HRT.out]; exact HEE.out)
            have hbad' : R = ([], l5, 5) := by rw [hbad, HRT.out]; exact HRR.out
            clear hbad HT HX HRT
            go_wp2_with fail
            refine bodyPost_ret (v := .tuple #[.slice none 0 0, .agg #[.slice A1 n1 c1, .int .i64 (5 : Int)]]) (by simp [results, Try.results6, go_sem, z0, z1]) rfl ?_
            subst hbad'
            exact ⟨none, 0, 0, ⟨A1, n1, c1, 5, l5⟩, rfl, rfl, own_nilW _ _, (HJ3.out.res _ _).1, rfl, rfl, (HJ3.out.res _ _).2⟩
          · have q2 : ((u : Int) == 0) = false := by simp [hu]
            by_cases hg : left < u
            · have q3 : (left : Int) < (u : Int) := by omega
              have hm5 : manyM u 0 left = 5 := by simp [manyM, hg]
              have HEE : Hid (¬ TR.e ⟨u, ⟨x0, x1, x2, x3⟩, l5, if insW ⟨x0, x1, x2, x3⟩ (rangeM 0 many) = true then (if lkO xs ⟨x0, x1, x2, x3⟩ = true then failM e5 5 else e5) else failM (if lkO xs ⟨x0, x1, x2, x3⟩ = true then failM e5 5 else e5) 14⟩ = 0) ∧ l5 = l1 ∧ e5 = 5 := by
                rw [hm5] at hb0
                simp only [bitsM] at hb0
                rw [if_neg (by decide)] at hb0
                injection hb0 with ha hb0
                injection hb0 with hc hd
                subst ha hc hd
                simp only [bitsM] at hb1
                rw [if_neg (by decide)] at hb1
                injection hb1 with ha hb0
                injection hb0 with hc hd
                subst ha hc hd
                simp only [bitsM] at hb2
                rw [if_neg (by decide)] at hb2
                injection hb2 with ha hb0
                injection hb0 with hc hd
                subst ha hc hd
                simp only [bitsM] at hb3
                rw [if_neg (by decide)] at hb3
                injection hb3 with ha hb0
                injection hb0 with hc hd
                subst ha hc hd
                refine ⟨Lib.hid ?_, rfl, rfl⟩
                show ¬ (if _ then (if _ then failM 5 5 else 5) else failM (if _ then failM 5 5 else 5) 14) = 0
                split <;> split <;> decide
              obtain ⟨HEE, hl5, he5⟩ := HEE
              subst hl5 he5
              have HRR : Hid ((([] : List W4), l5, if insW ⟨x0, x1, x2, x3⟩ (rangeM 0 many) = true then (if lkO xs ⟨x0, x1, x2, x3⟩ = true then failM 5 5 else 5) else failM (if lkO xs ⟨x0, x1, x2, x3⟩ = true then failM 5 5 else 5) 14) = (([] : List W4), l5, 5)) := Lib.hid (by congr 2; split <;> split <;> decide)
              clear hb0 hb1 hb2 hb3
              go_wp2_with fail
              refine (ref_Fail A1 n1 c1 0 5 _).mono ?_
              rintro e' w3 ⟨rfl, hb3⟩
              have HJ3 := Lib.hid (HJ.out.on hb3)
              clear HJ hb3 z0 z1 fz0 fz1
              unfold curV failM
              rw [if_pos rfl]
              have z0 : w3.cell? ⟨w.heap.size + 1, 0, none⟩ = some (.slice none 0 0) := HJ3.out.d.zc.at_ 0 _ rfl
              have z1 : w3.cell? ⟨w.heap.size + 1, 1, none⟩ = some (.int .i64 0) := HJ3.out.d.zc.at_ 1 _ rfl
              have fz0 := HJ3.out.d.zc.fz 0 (by simp)
              have fz1 := HJ3.out.d.zc.fz 1 (by simp)
              have hbad := HT.out.bad hxl HX.out (by rw [HRT.out]; exact HEE.out)
              have hbad' : R = ([], l5, 5) := by rw [hbad, HRT.out]; exact HRR.out
              clear hbad HT HX HRT
              go_wp2_with fail
              refine bodyPost_ret (v := .tuple #[.slice none 0 0, .agg #[.slice A1 n1 c1, .int .i64 (5 : Int)]]) (by simp [results, Try.results6, go_sem, z0, z1]) rfl ?_
              subst hbad'
              exact ⟨none, 0, 0, ⟨A1, n1, c1, 5, l5⟩, rfl, rfl, own_nilW _ _, (HJ3.out.res _ _).1, rfl, rfl, (HJ3.out.res _ _).2⟩
            · have q3 : ¬ (left : Int) < (u : Int) := by omega
              have hm5 : manyM u 0 left = 0 := by simp [manyM, hu, hg]
              rw [hm5] at hb0
              clear hm5
              go_wp2_with fail
              have HI := Lib.hid (HJ.out.toI (by simp))
              obtain ⟨b, hbE⟩ : ∃ b, w2.heap.size = b := ⟨_, rfl⟩
              rw [hbE] at HI
              rw [hbE]
              obtain ⟨w4, hwE⟩ : ∃ W, (w2.alloc (.cells #[.slice A1 n1 c1, .int .i64 (0 : Int)] 29)).alloc (.cells #[.int .u64 0, .int .u64 0, .int .u64 0, .int .u64 0] 41) = W := ⟨_, rfl⟩
              have HI4 : Hid (DocI w B ⟨pA, pn, pc, 0, pl⟩ A k c xs b ⟨A1, n1, c1, 0, l1⟩ zW w4) := Lib.hid (by rw [← hwE]; exact HI.out)
              rw [hwE]
              clear hwE hbE HJ z0 z1 fz0 fz1 HI
              have HI := HI4
              clear HI4
              refine wp_loop_rounds 5 ?_
              have q0 : w4.cell? ⟨b, 0, none⟩ = some (.slice A1 n1 c1) := HI.out.j.qc.at_ 0 _ rfl
              have q1 : w4.cell? ⟨b, 1, none⟩ = some (.int .i64 (0 : Int)) := HI.out.j.qc.at_ 1 _ rfl
              have hBw : B ≤ w4.heap.size := by have := HI.out.j.d.hB; have := HI.out.j.d.bw.size; omega
              have cb := ref_bits A1 n1 c1 0 B l1 w4 HI.out.j.qs hBw
              rw [hb0] at cb
              unfold curV at cb
              have CB := Lib.hid cb
              clear cb
              rw [rounds_succ]
              go_wp2_with fail
              refine CB.out.mono ?_
              rintro e' w5 ⟨A11, n11, c11, rfl, hs, hb⟩
              have HI2 := Lib.hid (HI.out.on hb)
              clear HI CB q0 q1 hb hBw
              have HI := Lib.hid (HI2.out.round 0 x0 (by omega) ⟨A11, n11, c11, e2, l2⟩ hs)
              clear hs
              have s0 := HI2.out.sc.at_ 0 _ rfl
              have fs := HI2.out.sc.fz 0 (by simp [cellsW])
              have q0 := HI2.out.j.qc.at_ 0 _ rfl
              have q1 := HI2.out.j.qc.at_ 1 _ rfl
              have fq0 := HI2.out.j.qc.fz 0 (by simp)
              have fq1 := HI2.out.j.qc.fz 1 (by simp)
              clear HI2
              go_wp2_with fail
              obtain ⟨v1, hwE⟩ : ∃ W, ((w5.setCell ⟨b + 1, 0, none⟩ (.int .u64 (x0 : Int))).setCell ⟨b, 0, none⟩ (.slice A11 n11 c11)).setCell ⟨b, 1, none⟩ (.int .i64 (e2 : Int)) = W := ⟨_, rfl⟩
              rw [hwE] at HI
              rw [hwE]
              clear hwE s0 fs q0 q1 fq0 fq1
              have q0 : v1.cell? ⟨b, 0, none⟩ = some (.slice A11 n11 c11) := HI.out.j.qc.at_ 0 _ rfl
              have q1 : v1.cell? ⟨b, 1, none⟩ = some (.int .i64 (e2 : Int)) := HI.out.j.qc.at_ 1 _ rfl
              have hBw : B ≤ v1.heap.size := by have := HI.out.j.d.hB; have := HI.out.j.d.bw.size; omega
              have cb := ref_bits A11 n11 c11 e2 B l2 v1 HI.out.j.qs hBw
              rw [hb1] at cb
              unfold curV at cb
              have CB := Lib.hid cb
              clear cb
              rw [rounds_succ]
              go_wp2_with fail
              refine CB.out.mono ?_
              rintro e' w5 ⟨A12, n12, c12, rfl, hs, hb⟩
              have HI2 := Lib.hid (HI.out.on hb)
              clear HI CB q0 q1 hb hBw
              have HI := Lib.hid (HI2.out.round 1 x1 (by omega) ⟨A12, n12, c12, e3, l3⟩ hs)
              clear hs
              have s0 := HI2.out.sc.at_ 1 _ rfl
              have fs := HI2.out.sc.fz 1 (by simp [cellsW])
              have q0 := HI2.out.j.qc.at_ 0 _ rfl
              have q1 := HI2.out.j.qc.at_ 1 _ rfl
              have fq0 := HI2.out.j.qc.fz 0 (by simp)
              have fq1 := HI2.out.j.qc.fz 1 (by simp)
              clear HI2
              go_wp2_with fail
              obtain ⟨v2, hwE⟩ : ∃ W, ((w5.setCell ⟨b + 1, 1, none⟩ (.int .u64 (x1 : Int))).setCell ⟨b, 0, none⟩ (.slice A12 n12 c12)).setCell ⟨b, 1, none⟩ (.int .i64 (e3 : Int)) = W := ⟨_, rfl⟩
              rw [hwE] at HI
              rw [hwE]
              clear hwE s0 fs q0 q1 fq0 fq1
              have q0 : v2.cell? ⟨b, 0, none⟩ = some (.slice A12 n12 c12) := HI.out.j.qc.at_ 0 _ rfl
              have q1 : v2.cell? ⟨b, 1, none⟩ = some (.int .i64 (e3 : Int)) := HI.out.j.qc.at_ 1 _ rfl
              have hBw : B ≤ v2.heap.size := by have := HI.out.j.d.hB; have := HI.out.j.d.bw.size; omega
              have cb := ref_bits A12 n12 c12 e3 B l3 v2 HI.out.j.qs hBw
              rw [hb2] at cb
              unfold curV at cb
              have CB := Lib.hid cb
              clear cb
              rw [rounds_succ]
              go_wp2_with fail
              refine CB.out.mono ?_
              rintro e' w5 ⟨A13, n13, c13, rfl, hs, hb⟩
              have HI2 := Lib.hid (HI.out.on hb)
              clear HI CB q0 q1 hb hBw
              have HI := Lib.hid (HI2.out.round 2 x2 (by omega) ⟨A13, n13, c13, e4, l4⟩ hs)
              clear hs
              have s0 := HI2.out.sc.at_ 2 _ rfl
              have fs := HI2.out.sc.fz 2 (by simp [cellsW])
              have q0 := HI2.out.j.qc.at_ 0 _ rfl
              have q1 := HI2.out.j.qc.at_ 1 _ rfl
              have fq0 := HI2.out.j.qc.fz 0 (by simp)
              have fq1 := HI2.out.j.qc.fz 1 (by simp)
              clear HI2
              go_wp2_with fail
              obtain ⟨v3, hwE⟩ : ∃ W, ((w5.setCell ⟨b + 1, 2, none⟩ (.int .u64 (x2 : Int))).setCell ⟨b, 0, none⟩ (.slice A13 n13 c13)).setCell ⟨b, 1, none⟩ (.int .i64 (e4 : Int)) = W := ⟨_, rfl⟩
              rw [hwE] at HI
              rw [hwE]
              clear hwE s0 fs q0 q1 fq0 fq1
              have q0 : v3.cell? ⟨b, 0, none⟩ = some (.slice A13 n13 c13) := HI.out.j.qc.at_ 0 _ rfl
              have q1 : v3.cell? ⟨b, 1, none⟩ = some (.int .i64 (e4 : Int)) := HI.out.j.qc.at_ 1 _ rfl
              have hBw : B ≤ v3.heap.size := by have := HI.out.j.d.hB; have := HI.out.j.d.bw.size; omega
              have cb := ref_bits A13 n13 c13 e4 B l4 v3 HI.out.j.qs hBw
              rw [hb3] at cb
              unfold curV at cb
              have CB := Lib.hid cb
              clear cb
              rw [rounds_succ]
              go_wp2_with fail
              refine CB.out.mono ?_
              rintro e' w5 ⟨A14, n14, c14, rfl, hs, hb⟩
              have HI2 := Lib.hid (HI.out.on hb)
              clear HI CB q0 q1 hb hBw
              have HI := Lib.hid (HI2.out.round 3 x3 (by omega) ⟨A14, n14, c14, e5, l5⟩ hs)
              clear hs
              have s0 := HI2.out.sc.at_ 3 _ rfl
              have fs := HI2.out.sc.fz 3 (by simp [cellsW])
              have q0 := HI2.out.j.qc.at_ 0 _ rfl
              have q1 := HI2.out.j.qc.at_ 1 _ rfl
              have fq0 := HI2.out.j.qc.fz 0 (by simp)
              have fq1 := HI2.out.j.qc.fz 1 (by simp)
              clear HI2
              go_wp2_with fail
              obtain ⟨v4, hwE⟩ : ∃ W, ((w5.setCell ⟨b + 1, 3, none⟩ (.int .u64 (x3 : Int))).setCell ⟨b, 0, none⟩ (.slice A14 n14 c14)).setCell ⟨b, 1, none⟩ (.int .i64 (e5 : Int)) = W := ⟨_, rfl⟩
              rw [hwE] at HI
              rw [hwE]
              clear hwE s0 fs q0 q1 fq0 fq1
              have HIS : Hid (DocI w B ⟨pA, pn, pc, 0, pl⟩ A k c xs b ⟨A14, n14, c14, e5, l5⟩ ⟨x0, x1, x2, x3⟩ v4) := HI
              clear HI
              have HI := HIS
              clear HIS
              have q0 : v4.cell? ⟨b, 0, none⟩ = some (.slice A14 n14 c14) := HI.out.j.qc.at_ 0 _ rfl
              have q1 : v4.cell? ⟨b, 1, none⟩ = some (.int .i64 (e5 : Int)) := HI.out.j.qc.at_ 1 _ rfl
              have s0 : v4.cell? ⟨b + 1, 0, none⟩ = some (.int .u64 (x0 : Int)) := HI.out.sc.at_ 0 _ rfl
              have s1 : v4.cell? ⟨b + 1, 1, none⟩ = some (.int .u64 (x1 : Int)) := HI.out.sc.at_ 1 _ rfl
              have s2 : v4.cell? ⟨b + 1, 2, none⟩ = some (.int .u64 (x2 : Int)) := HI.out.sc.at_ 2 _ rfl
              have s3 : v4.cell? ⟨b + 1, 3, none⟩ = some (.int .u64 (x3 : Int)) := HI.out.sc.at_ 3 _ rfl
              have p0 : v4.cell? ⟨w.heap.size, 0, none⟩ = some (.slice pA pn pc) := HI.out.j.d.pc.at_ 0 _ rfl
              have p1 : v4.cell? ⟨w.heap.size, 1, none⟩ = some (.int .i64 0) := HI.out.j.d.pc.at_ 1 _ rfl
              have fp0 := HI.out.j.d.pc.fz 0 (by simp)
              have fp1 := HI.out.j.d.pc.fz 1 (by simp)
              have z0 : v4.cell? ⟨w.heap.size + 1, 0, none⟩ = some (.slice none 0 0) := HI.out.j.d.zc.at_ 0 _ rfl
              have z1 : v4.cell? ⟨w.heap.size + 1, 1, none⟩ = some (.int .i64 0) := HI.out.j.d.zc.at_ 1 _ rfl
              have fz0 := HI.out.j.d.zc.fz 0 (by simp)
              have fz1 := HI.out.j.d.zc.fz 1 (by simp)
              clear hb0 hb1 hb2 hb3
              by_cases he5 : e5 = 0
              · skip
                subst he5
                rw [rounds_succ]
                rcases Nat.eq_zero_or_pos k with hk0 | hk0
                · have hx0 : xs = [] := List.eq_nil_of_length_eq_zero (by omega)
                  have HLK : Hid (lkO xs ⟨x0, x1, x2, x3⟩ = false) := Lib.hid (by rw [hx0]; rfl)
                  have d0 : decide ((0 : Int) < (k : Int)) = false := decide_eq_false (by omega)
                  have d1 : decide (0 < k) = false := decide_eq_false (by omega)
                  clear hx0 hk0
                  go_wp2_with fail
                  go_quiet (fail)
                  go_wp2_with fail
                  obtain ⟨vi, hvi⟩ : ∃ v, insW ⟨x0, x1, x2, x3⟩ (rangeM 0 many) = v := ⟨_, rfl⟩
                  have HIN := Lib.hid hvi
                  clear hvi
                  cases vi
                  · skip
                    have cr9 := Lib.hid (fun w => rrange_any 0 many w (by omega) (by omega))
                    have ci := Lib.hid (fun w => refInside_any x0 x1 x2 x3 (rangeM 0 many).a0 (rangeM 0 many).a1 (rangeM 0 many).a2 (rangeM 0 many).a3 w)
                    have hv : Hid (insB (x0 : Int) x1 x2 x3 (rangeM 0 many).a0 (rangeM 0 many).a1 (rangeM 0 many).a2 (rangeM 0 many).a3 = insW ⟨x0, x1, x2, x3⟩ (rangeM 0 many)) := Lib.hid rfl
                    rw [hv.out, HIN.out] at ci
                    have EQ : Hid (∀ W, Below v4.heap.size v4 W → W.cell? ⟨b, 1, none⟩ = some (.int .i64 0)) := Lib.hid fun W hW => (hW.cell (p := ⟨b, 1, none⟩) HI.out.j.qc.lt).trans q1
                    have ES : Hid (∀ W, Below v4.heap.size v4 W → W.cell? ⟨b + 1, 0, none⟩ = some (.int .u64 (x0 : Int)) ∧ W.cell? ⟨b + 1, 1, none⟩ = some (.int .u64 (x1 : Int)) ∧ W.cell? ⟨b + 1, 2, none⟩ = some (.int .u64 (x2 : Int)) ∧ W.cell? ⟨b + 1, 3, none⟩ = some (.int .u64 (x3 : Int))) := Lib.hid fun W hW => ⟨(hW.cell (p := ⟨b + 1, 0, none⟩) HI.out.sc.lt).trans s0, (hW.cell (p := ⟨b + 1, 1, none⟩) HI.out.sc.lt).trans s1, (hW.cell (p := ⟨b + 1, 2, none⟩) HI.out.sc.lt).trans s2, (hW.cell (p := ⟨b + 1, 3, none⟩) HI.out.sc.lt).trans s3⟩
                    generalize rangeM 0 many = RG at *
                    refine wp_region_held (S := fun W => Below v4.heap.size v4 W) (by kernel_rfl) ?_
                    change wpAnyH _ _ _ _ _ _ _ _ (World.drew _)
                    refine wpAnyH_take (i := 0) (v := .pointer (some ⟨b, 1, none⟩)) rfl (by kernel_rfl) (by kernel_rfl) (by kernel_rfl) (fun _ _ _ h => h) (Or.inl ⟨by rfl, by intro W hW; go_simp; try (first | (with_reducible rfl) | omega)⟩) ((drew_below _ _).drew) ?_
                    refine wpAnyH_take (i := 1) (v := .int .i64 0) rfl (by kernel_rfl) (by kernel_rfl) (by kernel_rfl) (fun _ _ _ h => h) (Or.inl ⟨by rfl, by intro W hW; have g1 := EQ.out W hW; go_simp; try (first | (with_reducible rfl) | omega)⟩) ((drew_below _ _).drew) ?_
                    refine wpAnyH_take (i := 2) (v := .bool true) rfl (by kernel_rfl) (by kernel_rfl) (by kernel_rfl) (fun _ _ _ h => h) (Or.inl ⟨by rfl, by intro W hW; go_simp; try (first | (with_reducible rfl) | omega)⟩) ((drew_below _ _).drew) ?_
                    refine wpAnyH_take (i := 3) (v := .bool true) rfl (by kernel_rfl) (by kernel_rfl) (by kernel_rfl) (fun _ _ _ h => h) (Or.inl ⟨by rfl, by intro W hW; go_simp; try (first | (with_reducible rfl) | omega)⟩) ((drew_below _ _).drew) ?_
                    refine wpAnyH_take (i := 4) (v := aggW ⟨x0, x1, x2, x3⟩) rfl (by kernel_rfl) (by kernel_rfl) (by kernel_rfl) (fun _ _ _ h => h) (Or.inl ⟨by rfl, by intro W hW; obtain ⟨g0, g1, g2, g3⟩ := ES.out W hW; go_simp; try (first | (with_reducible rfl) | omega)⟩) ((drew_below _ _).drew) ?_
                    refine wpAnyH_take (i := 5) (v := .int .i64 many) rfl (by kernel_rfl) (by kernel_rfl) (by kernel_rfl) (fun _ _ _ h => h) (Or.inl ⟨by rfl, by intro W hW; go_simp; try (first | (with_reducible rfl) | omega)⟩) ((drew_below _ _).drew) ?_
                    refine wpAnyH_one (i := 6) (by kernel_rfl) rfl (fun K hK => ?_)
                    go_simp
                    refine Calls.mono (cr9.out _) ?_
                    rintro e w5 ⟨rfl, hb5⟩
                    have hS5 := bl_trans ((drew_below _ _).drew) (by simp) hb5
                    go_simp
                    refine hK _ _ ⟨hS5, ?_⟩; clear hK K
                    refine wpAnyH_one (i := 7) (by kernel_rfl) rfl (fun K hK => ?_)
                    go_simp
                    refine Calls.mono (ci.out _) ?_
                    rintro e w6 ⟨rfl, hb6⟩
                    have hS6 := bl_trans hS5 hS5.size hb6
                    go_simp
                    refine hK _ _ ⟨hS6, ?_⟩; clear hK K
                    refine wpAnyH_one (i := 8) (by kernel_rfl) rfl (fun K hK => ?_)
                    go_simp
                    refine hK _ _ ⟨hS6, ?_⟩; clear hK K
                    refine wpAnyH_one (i := 9) (by kernel_rfl) rfl (fun K hK => ?_)
                    go_simp
                    refine hK _ _ ⟨hS6, ?_⟩; clear hK K
                    refine wpAnyH_done (by kernel_rfl) ?_ _
                    go_simp
                    have HI6 := Lib.hid (HI.out.on hS6)
                    clear HI z0 z1 fz0 fz1 q0 q1 s0 s1 s2 s3 p0 p1 fp0 fp1 hS5 hS6 hb5 hb6 ES EQ cr9 ci hv
                    have q0 : w6.cell? ⟨b, 0, none⟩ = some (.slice A14 n14 c14) := HI6.out.j.qc.at_ 0 _ rfl
                    have q1 : w6.cell? ⟨b, 1, none⟩ = some (.int .i64 0) := HI6.out.j.qc.at_ 1 _ rfl
                    have z0 : w6.cell? ⟨w.heap.size + 1, 0, none⟩ = some (.slice none 0 0) := HI6.out.j.d.zc.at_ 0 _ rfl
                    have z1 : w6.cell? ⟨w.heap.size + 1, 1, none⟩ = some (.int .i64 0) := HI6.out.j.d.zc.at_ 1 _ rfl
                    have fz0 := HI6.out.j.d.zc.fz 0 (by simp)
                    have fz1 := HI6.out.j.d.zc.fz 1 (by simp)
                    go_wp2_with fail
                    have HEE : Hid (¬ TR.e ⟨u, ⟨x0, x1, x2, x3⟩, l5, if insW ⟨x0, x1, x2, x3⟩ (RG) = true then (if lkO xs ⟨x0, x1, x2, x3⟩ = true then failM 0 5 else 0) else failM (if lkO xs ⟨x0, x1, x2, x3⟩ = true then failM 0 5 else 0) 14⟩ = 0) := by
                      refine Lib.hid ?_
                      show ¬ (if insW ⟨x0, x1, x2, x3⟩ (RG) = true then (if lkO xs ⟨x0, x1, x2, x3⟩ = true then failM 0 5 else 0) else failM (if lkO xs ⟨x0, x1, x2, x3⟩ = true then failM 0 5 else 0) 14) = 0
                      rw [HLK.out]
                      rw [HIN.out]; decide
                    have HRR : Hid ((([] : List W4), l5, if insW ⟨x0, x1, x2, x3⟩ (RG) = true then (if lkO xs ⟨x0, x1, x2, x3⟩ = true then failM 0 5 else 0) else failM (if lkO xs ⟨x0, x1, x2, x3⟩ = true then failM 0 5 else 0) 14) = (([] : List W4), l5, 14)) := by
                      refine Lib.hid ?_
                      rw [HLK.out]
                      rw [HIN.out]; rfl
                    refine (ref_Fail A14 n14 c14 0 14 _).mono ?_
                    rintro e' w8 ⟨rfl, hb8⟩
                    have HJ3 := Lib.hid (HI6.out.on hb8).j
                    clear hb8 z0 z1 fz0 fz1
                    unfold curV failM
                    rw [if_pos rfl]
                    have z0 : w8.cell? ⟨w.heap.size + 1, 0, none⟩ = some (.slice none 0 0) := HJ3.out.d.zc.at_ 0 _ rfl
                    have z1 : w8.cell? ⟨w.heap.size + 1, 1, none⟩ = some (.int .i64 0) := HJ3.out.d.zc.at_ 1 _ rfl
                    have fz0 := HJ3.out.d.zc.fz 0 (by simp)
                    have fz1 := HJ3.out.d.zc.fz 1 (by simp)
                    have hbad := HT.out.bad hxl HX.out (by rw [HRT.out]; exact HEE.out)
                    have hbad' : R = ([], l5, 14) := by rw [hbad, HRT.out]; exact HRR.out
                    clear hbad HT HX HRT
                    go_wp2_with fail
                    refine bodyPost_ret (v := .tuple #[.slice none 0 0, .agg #[.slice A14 n14 c14, .int .i64 (14 : Int)]]) (by simp [results, Try.results6, go_sem, z0, z1]) rfl ?_
                    subst hbad'
                    exact ⟨none, 0, 0, ⟨A14, n14, c14, 14, l5⟩, rfl, rfl, own_nilW _ _, (HJ3.out.res _ _).1, rfl, rfl, (HJ3.out.res _ _).2⟩
                  · skip
                    have cr9 := Lib.hid (fun w => rrange_any 0 many w (by omega) (by omega))
                    have ci := Lib.hid (fun w => refInside_any x0 x1 x2 x3 (rangeM 0 many).a0 (rangeM 0 many).a1 (rangeM 0 many).a2 (rangeM 0 many).a3 w)
                    have hv : Hid (insB (x0 : Int) x1 x2 x3 (rangeM 0 many).a0 (rangeM 0 many).a1 (rangeM 0 many).a2 (rangeM 0 many).a3 = insW ⟨x0, x1, x2, x3⟩ (rangeM 0 many)) := Lib.hid rfl
                    rw [hv.out, HIN.out] at ci
                    have EQ : Hid (∀ W, Below v4.heap.size v4 W → W.cell? ⟨b, 1, none⟩ = some (.int .i64 0)) := Lib.hid fun W hW => (hW.cell (p := ⟨b, 1, none⟩) HI.out.j.qc.lt).trans q1
                    have ES : Hid (∀ W, Below v4.heap.size v4 W → W.cell? ⟨b + 1, 0, none⟩ = some (.int .u64 (x0 : Int)) ∧ W.cell? ⟨b + 1, 1, none⟩ = some (.int .u64 (x1 : Int)) ∧ W.cell? ⟨b + 1, 2, none⟩ = some (.int .u64 (x2 : Int)) ∧ W.cell? ⟨b + 1, 3, none⟩ = some (.int .u64 (x3 : Int))) := Lib.hid fun W hW => ⟨(hW.cell (p := ⟨b + 1, 0, none⟩) HI.out.sc.lt).trans s0, (hW.cell (p := ⟨b + 1, 1, none⟩) HI.out.sc.lt).trans s1, (hW.cell (p := ⟨b + 1, 2, none⟩) HI.out.sc.lt).trans s2, (hW.cell (p := ⟨b + 1, 3, none⟩) HI.out.sc.lt).trans s3⟩
                    generalize rangeM 0 many = RG at *
                    refine wp_region_held (S := fun W => Below v4.heap.size v4 W) (by kernel_rfl) ?_
                    change wpAnyH _ _ _ _ _ _ _ _ (World.drew _)
                    refine wpAnyH_take (i := 0) (v := .pointer (some ⟨b, 1, none⟩)) rfl (by kernel_rfl) (by kernel_rfl) (by kernel_rfl) (fun _ _ _ h => h) (Or.inl ⟨by rfl, by intro W hW; go_simp; try (first | (with_reducible rfl) | omega)⟩) ((drew_below _ _).drew) ?_
                    refine wpAnyH_take (i := 1) (v := .int .i64 0) rfl (by kernel_rfl) (by kernel_rfl) (by kernel_rfl) (fun _ _ _ h => h) (Or.inl ⟨by rfl, by intro W hW; have g1 := EQ.out W hW; go_simp; try (first | (with_reducible rfl) | omega)⟩) ((drew_below _ _).drew) ?_
                    refine wpAnyH_take (i := 2) (v := .bool true) rfl (by kernel_rfl) (by kernel_rfl) (by kernel_rfl) (fun _ _ _ h => h) (Or.inl ⟨by rfl, by intro W hW; go_simp; try (first | (with_reducible rfl) | omega)⟩) ((drew_below _ _).drew) ?_
                    refine wpAnyH_take (i := 3) (v := .bool true) rfl (by kernel_rfl) (by kernel_rfl) (by kernel_rfl) (fun _ _ _ h => h) (Or.inl ⟨by rfl, by intro W hW; go_simp; try (first | (with_reducible rfl) | omega)⟩) ((drew_below _ _).drew) ?_
                    refine wpAnyH_take (i := 4) (v := aggW ⟨x0, x1, x2, x3⟩) rfl (by kernel_rfl) (by kernel_rfl) (by kernel_rfl) (fun _ _ _ h => h) (Or.inl ⟨by rfl, by intro W hW; obtain ⟨g0, g1, g2, g3⟩ := ES.out W hW; go_simp; try (first | (with_reducible rfl) | omega)⟩) ((drew_below _ _).drew) ?_
                    refine wpAnyH_take (i := 5) (v := .int .i64 many) rfl (by kernel_rfl) (by kernel_rfl) (by kernel_rfl) (fun _ _ _ h => h) (Or.inl ⟨by rfl, by intro W hW; go_simp; try (first | (with_reducible rfl) | omega)⟩) ((drew_below _ _).drew) ?_
                    refine wpAnyH_one (i := 6) (by kernel_rfl) rfl (fun K hK => ?_)
                    go_simp
                    refine Calls.mono (cr9.out _) ?_
                    rintro e w5 ⟨rfl, hb5⟩
                    have hS5 := bl_trans ((drew_below _ _).drew) (by simp) hb5
                    go_simp
                    refine hK _ _ ⟨hS5, ?_⟩; clear hK K
                    refine wpAnyH_one (i := 7) (by kernel_rfl) rfl (fun K hK => ?_)
                    go_simp
                    refine Calls.mono (ci.out _) ?_
                    rintro e w6 ⟨rfl, hb6⟩
                    have hS6 := bl_trans hS5 hS5.size hb6
                    go_simp
                    refine hK _ _ ⟨hS6, ?_⟩; clear hK K
                    refine wpAnyH_one (i := 8) (by kernel_rfl) rfl (fun K hK => ?_)
                    go_simp
                    refine hK _ _ ⟨hS6, ?_⟩; clear hK K
                    refine wpAnyH_one (i := 9) (by kernel_rfl) rfl (fun K hK => ?_)
                    go_simp
                    refine hK _ _ ⟨hS6, ?_⟩; clear hK K
                    refine wpAnyH_done (by kernel_rfl) ?_ _
                    go_simp
                    have HI6 := Lib.hid (HI.out.on hS6)
                    clear HI z0 z1 fz0 fz1 q0 q1 s0 s1 s2 s3 p0 p1 fp0 fp1 hS5 hS6 hb5 hb6 ES EQ cr9 ci hv
                    have q0 : w6.cell? ⟨b, 0, none⟩ = some (.slice A14 n14 c14) := HI6.out.j.qc.at_ 0 _ rfl
                    have q1 : w6.cell? ⟨b, 1, none⟩ = some (.int .i64 0) := HI6.out.j.qc.at_ 1 _ rfl
                    have p0 : w6.cell? ⟨w.heap.size, 0, none⟩ = some (.slice pA pn pc) := HI6.out.j.d.pc.at_ 0 _ rfl
                    have p1 : w6.cell? ⟨w.heap.size, 1, none⟩ = some (.int .i64 0) := HI6.out.j.d.pc.at_ 1 _ rfl
                    have fp0 := HI6.out.j.d.pc.fz 0 (by simp)
                    have fp1 := HI6.out.j.d.pc.fz 1 (by simp)
                    have hE0 : TR.e ⟨u, ⟨x0, x1, x2, x3⟩, l5, if insW ⟨x0, x1, x2, x3⟩ RG = true then (if lkO xs ⟨x0, x1, x2, x3⟩ = true then failM 0 5 else 0) else failM (if lkO xs ⟨x0, x1, x2, x3⟩ = true then failM 0 5 else 0) 14⟩ = 0 := by
                      show (if insW ⟨x0, x1, x2, x3⟩ RG = true then (if lkO xs ⟨x0, x1, x2, x3⟩ = true then failM 0 5 else 0) else failM (if lkO xs ⟨x0, x1, x2, x3⟩ = true then failM 0 5 else 0) 14) = 0
                      rw [HLK.out, HIN.out]
                      rfl
                    have hnx := HT.out.next hxl HX.out (by rw [HRT.out]; exact hE0)
                    have HN : Hid (TabR N many (xs ++ List.replicate u ⟨x0, x1, x2, x3⟩) l5 R) := Lib.hid (by have := hnx; rw [HRT.out] at this; exact this)
                    clear hnx hE0 HT HX HRT HIN HLK
                    have hul : u ≤ left := by omega
                    go_wp2_with fail
                    have HI7 := Lib.hid HI6.out.back
                    clear q0 q1 p0 p1 fp0 fp1 HI6
                    obtain ⟨w7, hwE⟩ : ∃ W, ((w6.setCell ⟨w.heap.size, 0, none⟩ (.slice A14 n14 c14)).setCell ⟨w.heap.size, 1, none⟩ (.int .i64 0)) = W := ⟨_, rfl⟩
                    have HI8 : Hid (DocI w B ⟨A14, n14, c14, 0, l5⟩ A k c xs b ⟨A14, n14, c14, 0, l5⟩ ⟨x0, x1, x2, x3⟩ w7) := Lib.hid (by rw [← hwE]; exact HI7.out)
                    rw [hwE]
                    clear hwE HI7
                    obtain ⟨wo, hwo⟩ : ∃ wo : World, wo = wr := ⟨_, rfl⟩
                    subst hwo
                    go_loopw [8, 13] (fun o j wr => ∃ (q : Nat) (A2 : Option Addr) (c2 : Nat), o = .slice A2 (k + q) c2 ∧ j = .int .u64 q ∧ q ≤ u ∧ Hid (DocI w B ⟨A14, n14, c14, 0, l5⟩ A2 (k + q) c2 (xs ++ List.replicate q ⟨x0, x1, x2, x3⟩) b ⟨A14, n14, c14, 0, l5⟩ ⟨x0, x1, x2, x3⟩ wr)) (fun _ j _ => u - (intOf j).toNat)
                    case atStart => exact ⟨0, A, c, rfl, rfl, Nat.zero_le _, Lib.hid (by rw [List.replicate_zero, List.append_nil]; exact HI8.out)⟩
                    case round =>
                      obtain ⟨q, A2, c2, rfl, rfl, hq, HQ⟩ := hrel
                      have q1 : wr.cell? ⟨b, 1, none⟩ = some (.int .i64 0) := HQ.out.j.qc.at_ 1 _ rfl
                      by_cases hqt : q < u
                      · have hqT : (q : Int) < (u : Int) := by omega
                        have hq0 : (0 : Int) ≤ (q : Int) := by omega
                        have s0 : wr.cell? ⟨b + 1, 0, none⟩ = some (.int .u64 (x0 : Int)) := HQ.out.sc.at_ 0 _ rfl
                        have s1 : wr.cell? ⟨b + 1, 1, none⟩ = some (.int .u64 (x1 : Int)) := HQ.out.sc.at_ 1 _ rfl
                        have s2 : wr.cell? ⟨b + 1, 2, none⟩ = some (.int .u64 (x2 : Int)) := HQ.out.sc.at_ 2 _ rfl
                        have s3 : wr.cell? ⟨b + 1, 3, none⟩ = some (.int .u64 (x3 : Int)) := HQ.out.sc.at_ 3 _ rfl
                        have hsrc := Lib.hid (set_src wr ⟨x0, x1, x2, x3⟩)
                        have hone := Lib.hid (set_one ⟨x0, x1, x2, x3⟩)
                        have hzb : w.heap.size + 2 ≤ (wr.alloc (.cells #[.int .u64 (x0 : Int), .int .u64 (x1 : Int), .int .u64 (x2 : Int), .int .u64 (x3 : Int)] 41)).heap.size := by have := HQ.out.j.d.zc.lt; simp; omega
                        have hown := Lib.hid (HQ.out.j.d.own.alloc (.cells #[.int .u64 (x0 : Int), .int .u64 (x1 : Int), .int .u64 (x2 : Int), .int .u64 (x3 : Int)] 41))
                        have hrep : Hid (xs ++ List.replicate q (⟨x0, x1, x2, x3⟩ : W4) ++ [⟨x0, x1, x2, x3⟩] = xs ++ List.replicate (q + 1) ⟨x0, x1, x2, x3⟩) := Lib.hid (by rw [List.append_assoc, List.replicate_succ'])
                        have hkq : k + q ≤ 200 := by omega
                        generalize xs ++ List.replicate q (⟨x0, x1, x2, x3⟩ : W4) = out at *
                        obtain ⟨kq, hkE⟩ : ∃ kq, k + q = kq := ⟨_, rfl⟩
                        rw [hkE] at HQ hown hkq ⊢
                        have HKE := Lib.hid hkE
                        clear hkE
                        go_wp2_with (first
                          | (at_builtin; go_must (refine wpList_append_src _ rfl _ _ 26 rfl (w.heap.size + 2) 41 i0 (.agg #[.int .u64 0, .int .u64 0, .int .u64 0, .int .u64 0]) 4 32 Try.underlying26 hi hz0 hz1 hz2 rfl (by decide) _ _ _ rfl hown.out (some ⟨wr.heap.size, 0, none⟩) 1 1 (cellsW ⟨x0, x1, x2, x3⟩) rfl hsrc.out hone.out (by unfold maxLen; omega) (by omega) hzb ?_)
                             intro v' w3 hown' hgrow3 hat3
                             obtain ⟨A', c', rfl, o3⟩ := HQ.out.snoc hown' hgrow3 hat3
                             have O3 := Lib.hid o3
                             clear hown' hgrow3 hat3 o3))
                        go_roundw
                        case rel => exact ⟨q + 1, A', c', by rw [← HKE.out]; rfl, by go_num, by omega, Lib.hid (by rw [← hrep.out, ← Nat.add_assoc, HKE.out]; exact O3.out)⟩
                        case measure => simp [intOf]; omega
                      · obtain rfl : q = u := by omega
                        have hEE : eAt w.heap.size wr ≤ 1 := by unfold eAt; split <;> (try split) <;> omega
                        have HEE := Lib.hid hEE
                        clear hEE
                        go_wp2_with fail
                        refine ⟨?rel0, ?measure⟩
                        case rel0 =>
                          repeat apply Exists.intro
                          refine ⟨?_, rfl⟩
                          exact ⟨xs ++ List.replicate q ⟨x0, x1, x2, x3⟩, A14, n14, c14, 0, l5, A2, k + q, c2, rfl, by omega, Lib.hid HQ.out.j.d, Lib.hid (.inl ⟨rfl, HN.out⟩)⟩
                        case measure =>
                          have h1 := HEA.out
                          have h2 := HEE.out
                          show 2 * (N - (k + q)) + eAt w.heap.size wr < 2 * (N - k) + eAt w.heap.size wo
                          omega
                · obtain ⟨m, hm⟩ : ∃ m, k = m + 1 := ⟨k - 1, by omega⟩
                  obtain ⟨t, ht⟩ : ∃ t, xs[m]? = some t := ⟨xs[m], List.getElem?_eq_getElem (by omega)⟩
                  have hlk : lkO xs ⟨x0, x1, x2, x3⟩ = eqW t ⟨x0, x1, x2, x3⟩ := by
                    unfold lkO
                    rw [List.getLast?_eq_getElem?, show xs.length - 1 = m by omega, ht]
                  obtain ⟨r9, rfl, hr9⟩ : ∃ r9, A = some ⟨r9, 0, none⟩ ∧ ∀ j v, (cellsW t)[j]? = some v → v4.cell? ⟨r9, m * 4 + j, none⟩ = some v := by
                    obtain ⟨A2, c2', hv, hA0, hA1⟩ := own_form HI.out.j.d.own
                    simp only [Value.slice.injEq, true_and] at hv
                    obtain ⟨rfl, rfl⟩ := hv
                    cases A with
                    | none => exact absurd (hA0 rfl) (by omega)
                    | some ad =>
                      obtain ⟨g9, rfl, _, _⟩ := hA1 ad rfl
                      refine ⟨g9, rfl, fun j v hj => ?_⟩
                      have hj4 : j < 4 := by have := (List.getElem?_eq_some_iff.1 hj).1; exact this
                      have h9 := HI.out.j.d.own.cellAt (m * 4 + j) (by omega)
                      rw [h9]
                      exact flatMap_at cellsW (fun _ => rfl) xs m j t v hj4 ht hj
                  have t0 : v4.cell? ⟨r9, m * 4, none⟩ = some (.int .u64 (t.a0 : Int)) := hr9 0 _ rfl
                  have t1 : v4.cell? ⟨r9, m * 4 + 1, none⟩ = some (.int .u64 (t.a1 : Int)) := hr9 1 _ rfl
                  have t2 : v4.cell? ⟨r9, m * 4 + 2, none⟩ = some (.int .u64 (t.a2 : Int)) := hr9 2 _ rfl
                  have t3 : v4.cell? ⟨r9, m * 4 + 3, none⟩ = some (.int .u64 (t.a3 : Int)) := hr9 3 _ rfl
                  have heq : ∀ W, (Op.equalIn 10000 41 (aggU t.a0 t.a1 t.a2 t.a3) (aggU x0 x1 x2 x3)).run Try.prog W = .ok (eqW t ⟨x0, x1, x2, x3⟩) W := fun W => eq_arr 9998 t.a0 t.a1 t.a2 t.a3 x0 x1 x2 x3 W
                  have hguard := eq_guard
                  have d0 : decide ((0 : Int) < (k : Int)) = true := decide_eq_true (by omega)
                  have hwm : IntKind.i64.wrap ((k : Int) - 1) = (m : Int) := by rw [IntKind.wrap_i64]; omega
                  have hm0 : (0 : Int) ≤ (m : Int) := by omega
                  have hmk : (m : Int) < (k : Int) := by omega
                  have HMK := Lib.hid hm
                  rw [← hlk] at heq
                  obtain ⟨vl, hvl⟩ : ∃ v, lkO xs ⟨x0, x1, x2, x3⟩ = v := ⟨_, rfl⟩
                  rw [hvl] at heq
                  have HLK := Lib.hid hvl
                  clear hr9 hlk ht hvl hm
                  cases vl
                  · go_wp2_with fail
                    go_quiet (fail)
                    clear heq hguard t0 t1 t2 t3
                    go_wp2_with fail
                    obtain ⟨vi, hvi⟩ : ∃ v, insW ⟨x0, x1, x2, x3⟩ (rangeM 0 many) = v := ⟨_, rfl⟩
                    have HIN := Lib.hid hvi
                    clear hvi
                    cases vi
                    · skip
                      have cr9 := Lib.hid (fun w => rrange_any 0 many w (by omega) (by omega))
                      have ci := Lib.hid (fun w => refInside_any x0 x1 x2 x3 (rangeM 0 many).a0 (rangeM 0 many).a1 (rangeM 0 many).a2 (rangeM 0 many).a3 w)
                      have hv : Hid (insB (x0 : Int) x1 x2 x3 (rangeM 0 many).a0 (rangeM 0 many).a1 (rangeM 0 many).a2 (rangeM 0 many).a3 = insW ⟨x0, x1, x2, x3⟩ (rangeM 0 many)) := Lib.hid rfl
                      rw [hv.out, HIN.out] at ci
                      have EQ : Hid (∀ W, Below v4.heap.size v4 W → W.cell? ⟨b, 1, none⟩ = some (.int .i64 0)) := Lib.hid fun W hW => (hW.cell (p := ⟨b, 1, none⟩) HI.out.j.qc.lt).trans q1
                      have ES : Hid (∀ W, Below v4.heap.size v4 W → W.cell? ⟨b + 1, 0, none⟩ = some (.int .u64 (x0 : Int)) ∧ W.cell? ⟨b + 1, 1, none⟩ = some (.int .u64 (x1 : Int)) ∧ W.cell? ⟨b + 1, 2, none⟩ = some (.int .u64 (x2 : Int)) ∧ W.cell? ⟨b + 1, 3, none⟩ = some (.int .u64 (x3 : Int))) := Lib.hid fun W hW => ⟨(hW.cell (p := ⟨b + 1, 0, none⟩) HI.out.sc.lt).trans s0, (hW.cell (p := ⟨b + 1, 1, none⟩) HI.out.sc.lt).trans s1, (hW.cell (p := ⟨b + 1, 2, none⟩) HI.out.sc.lt).trans s2, (hW.cell (p := ⟨b + 1, 3, none⟩) HI.out.sc.lt).trans s3⟩
                      generalize rangeM 0 many = RG at *
                      refine wp_region_held (S := fun W => Below v4.heap.size v4 W) (by kernel_rfl) ?_
                      change wpAnyH _ _ _ _ _ _ _ _ (World.drew _)
                      refine wpAnyH_take (i := 0) (v := .pointer (some ⟨b, 1, none⟩)) rfl (by kernel_rfl) (by kernel_rfl) (by kernel_rfl) (fun _ _ _ h => h) (Or.inl ⟨by rfl, by intro W hW; go_simp; try (first | (with_reducible rfl) | omega)⟩) ((drew_below _ _).drew) ?_
                      refine wpAnyH_take (i := 1) (v := .int .i64 0) rfl (by kernel_rfl) (by kernel_rfl) (by kernel_rfl) (fun _ _ _ h => h) (Or.inl ⟨by rfl, by intro W hW; have g1 := EQ.out W hW; go_simp; try (first | (with_reducible rfl) | omega)⟩) ((drew_below _ _).drew) ?_
                      refine wpAnyH_take (i := 2) (v := .bool true) rfl (by kernel_rfl) (by kernel_rfl) (by kernel_rfl) (fun _ _ _ h => h) (Or.inl ⟨by rfl, by intro W hW; go_simp; try (first | (with_reducible rfl) | omega)⟩) ((drew_below _ _).drew) ?_
                      refine wpAnyH_take (i := 3) (v := .bool true) rfl (by kernel_rfl) (by kernel_rfl) (by kernel_rfl) (fun _ _ _ h => h) (Or.inl ⟨by rfl, by intro W hW; go_simp; try (first | (with_reducible rfl) | omega)⟩) ((drew_below _ _).drew) ?_
                      refine wpAnyH_take (i := 4) (v := aggW ⟨x0, x1, x2, x3⟩) rfl (by kernel_rfl) (by kernel_rfl) (by kernel_rfl) (fun _ _ _ h => h) (Or.inl ⟨by rfl, by intro W hW; obtain ⟨g0, g1, g2, g3⟩ := ES.out W hW; go_simp; try (first | (with_reducible rfl) | omega)⟩) ((drew_below _ _).drew) ?_
                      refine wpAnyH_take (i := 5) (v := .int .i64 many) rfl (by kernel_rfl) (by kernel_rfl) (by kernel_rfl) (fun _ _ _ h => h) (Or.inl ⟨by rfl, by intro W hW; go_simp; try (first | (with_reducible rfl) | omega)⟩) ((drew_below _ _).drew) ?_
                      refine wpAnyH_one (i := 6) (by kernel_rfl) rfl (fun K hK => ?_)
                      go_simp
                      refine Calls.mono (cr9.out _) ?_
                      rintro e w5 ⟨rfl, hb5⟩
                      have hS5 := bl_trans ((drew_below _ _).drew) (by simp) hb5
                      go_simp
                      refine hK _ _ ⟨hS5, ?_⟩; clear hK K
                      refine wpAnyH_one (i := 7) (by kernel_rfl) rfl (fun K hK => ?_)
                      go_simp
                      refine Calls.mono (ci.out _) ?_
                      rintro e w6 ⟨rfl, hb6⟩
                      have hS6 := bl_trans hS5 hS5.size hb6
                      go_simp
                      refine hK _ _ ⟨hS6, ?_⟩; clear hK K
                      refine wpAnyH_one (i := 8) (by kernel_rfl) rfl (fun K hK => ?_)
                      go_simp
                      refine hK _ _ ⟨hS6, ?_⟩; clear hK K
                      refine wpAnyH_one (i := 9) (by kernel_rfl) rfl (fun K hK => ?_)
                      go_simp
                      refine hK _ _ ⟨hS6, ?_⟩; clear hK K
                      refine wpAnyH_done (by kernel_rfl) ?_ _
                      go_simp
                      have HI6 := Lib.hid (HI.out.on hS6)
                      clear HI z0 z1 fz0 fz1 q0 q1 s0 s1 s2 s3 p0 p1 fp0 fp1 hS5 hS6 hb5 hb6 ES EQ cr9 ci hv
                      have q0 : w6.cell? ⟨b, 0, none⟩ = some (.slice A14 n14 c14) := HI6.out.j.qc.at_ 0 _ rfl
                      have q1 : w6.cell? ⟨b, 1, none⟩ = some (.int .i64 0) := HI6.out.j.qc.at_ 1 _ rfl
                      have z0 : w6.cell? ⟨w.heap.size + 1, 0, none⟩ = some (.slice none 0 0) := HI6.out.j.d.zc.at_ 0 _ rfl
                      have z1 : w6.cell? ⟨w.heap.size + 1, 1, none⟩ = some (.int .i64 0) := HI6.out.j.d.zc.at_ 1 _ rfl
                      have fz0 := HI6.out.j.d.zc.fz 0 (by simp)
                      have fz1 := HI6.out.j.d.zc.fz 1 (by simp)
                      go_wp2_with fail
                      have HEE : Hid (¬ TR.e ⟨u, ⟨x0, x1, x2, x3⟩, l5, if insW ⟨x0, x1, x2, x3⟩ (RG) = true then (if lkO xs ⟨x0, x1, x2, x3⟩ = true then failM 0 5 else 0) else failM (if lkO xs ⟨x0, x1, x2, x3⟩ = true then failM 0 5 else 0) 14⟩ = 0) := by
                        refine Lib.hid ?_
                        show ¬ (if insW ⟨x0, x1, x2, x3⟩ (RG) = true then (if lkO xs ⟨x0, x1, x2, x3⟩ = true then failM 0 5 else 0) else failM (if lkO xs ⟨x0, x1, x2, x3⟩ = true then failM 0 5 else 0) 14) = 0
                        rw [HLK.out]
                        rw [HIN.out]; decide
                      have HRR : Hid ((([] : List W4), l5, if insW ⟨x0, x1, x2, x3⟩ (RG) = true then (if lkO xs ⟨x0, x1, x2, x3⟩ = true then failM 0 5 else 0) else failM (if lkO xs ⟨x0, x1, x2, x3⟩ = true then failM 0 5 else 0) 14) = (([] : List W4), l5, 14)) := by
                        refine Lib.hid ?_
                        rw [HLK.out]
                        rw [HIN.out]; rfl
                      refine (ref_Fail A14 n14 c14 0 14 _).mono ?_
                      rintro e' w8 ⟨rfl, hb8⟩
                      have HJ3 := Lib.hid (HI6.out.on hb8).j
                      clear hb8 z0 z1 fz0 fz1
                      unfold curV failM
                      rw [if_pos rfl]
                      have z0 : w8.cell? ⟨w.heap.size + 1, 0, none⟩ = some (.slice none 0 0) := HJ3.out.d.zc.at_ 0 _ rfl
                      have z1 : w8.cell? ⟨w.heap.size + 1, 1, none⟩ = some (.int .i64 0) := HJ3.out.d.zc.at_ 1 _ rfl
                      have fz0 := HJ3.out.d.zc.fz 0 (by simp)
                      have fz1 := HJ3.out.d.zc.fz 1 (by simp)
                      have hbad := HT.out.bad hxl HX.out (by rw [HRT.out]; exact HEE.out)
                      have hbad' : R = ([], l5, 14) := by rw [hbad, HRT.out]; exact HRR.out
                      clear hbad HT HX HRT
                      go_wp2_with fail
                      refine bodyPost_ret (v := .tuple #[.slice none 0 0, .agg #[.slice A14 n14 c14, .int .i64 (14 : Int)]]) (by simp [results, Try.results6, go_sem, z0, z1]) rfl ?_
                      subst hbad'
                      exact ⟨none, 0, 0, ⟨A14, n14, c14, 14, l5⟩, rfl, rfl, own_nilW _ _, (HJ3.out.res _ _).1, rfl, rfl, (HJ3.out.res _ _).2⟩
                    · skip
                      have cr9 := Lib.hid (fun w => rrange_any 0 many w (by omega) (by omega))
                      have ci := Lib.hid (fun w => refInside_any x0 x1 x2 x3 (rangeM 0 many).a0 (rangeM 0 many).a1 (rangeM 0 many).a2 (rangeM 0 many).a3 w)
                      have hv : Hid (insB (x0 : Int) x1 x2 x3 (rangeM 0 many).a0 (rangeM 0 many).a1 (rangeM 0 many).a2 (rangeM 0 many).a3 = insW ⟨x0, x1, x2, x3⟩ (rangeM 0 many)) := Lib.hid rfl
                      rw [hv.out, HIN.out] at ci
                      have EQ : Hid (∀ W, Below v4.heap.size v4 W → W.cell? ⟨b, 1, none⟩ = some (.int .i64 0)) := Lib.hid fun W hW => (hW.cell (p := ⟨b, 1, none⟩) HI.out.j.qc.lt).trans q1
                      have ES : Hid (∀ W, Below v4.heap.size v4 W → W.cell? ⟨b + 1, 0, none⟩ = some (.int .u64 (x0 : Int)) ∧ W.cell? ⟨b + 1, 1, none⟩ = some (.int .u64 (x1 : Int)) ∧ W.cell? ⟨b + 1, 2, none⟩ = some (.int .u64 (x2 : Int)) ∧ W.cell? ⟨b + 1, 3, none⟩ = some (.int .u64 (x3 : Int))) := Lib.hid fun W hW => ⟨(hW.cell (p := ⟨b + 1, 0, none⟩) HI.out.sc.lt).trans s0, (hW.cell (p := ⟨b + 1, 1, none⟩) HI.out.sc.lt).trans s1, (hW.cell (p := ⟨b + 1, 2, none⟩) HI.out.sc.lt).trans s2, (hW.cell (p := ⟨b + 1, 3, none⟩) HI.out.sc.lt).trans s3⟩
                      generalize rangeM 0 many = RG at *
                      refine wp_region_held (S := fun W => Below v4.heap.size v4 W) (by kernel_rfl) ?_
                      change wpAnyH _ _ _ _ _ _ _ _ (World.drew _)
                      refine wpAnyH_take (i := 0) (v := .pointer (some ⟨b, 1, none⟩)) rfl (by kernel_rfl) (by kernel_rfl) (by kernel_rfl) (fun _ _ _ h => h) (Or.inl ⟨by rfl, by intro W hW; go_simp; try (first | (with_reducible rfl) | omega)⟩) ((drew_below _ _).drew) ?_
                      refine wpAnyH_take (i := 1) (v := .int .i64 0) rfl (by kernel_rfl) (by kernel_rfl) (by kernel_rfl) (fun _ _ _ h => h) (Or.inl ⟨by rfl, by intro W hW; have g1 := EQ.out W hW; go_simp; try (first | (with_reducible rfl) | omega)⟩) ((drew_below _ _).drew) ?_
                      refine wpAnyH_take (i := 2) (v := .bool true) rfl (by kernel_rfl) (by kernel_rfl) (by kernel_rfl) (fun _ _ _ h => h) (Or.inl ⟨by rfl, by intro W hW; go_simp; try (first | (with_reducible rfl) | omega)⟩) ((drew_below _ _).drew) ?_
                      refine wpAnyH_take (i := 3) (v := .bool true) rfl (by kernel_rfl) (by kernel_rfl) (by kernel_rfl) (fun _ _ _ h => h) (Or.inl ⟨by rfl, by intro W hW; go_simp; try (first | (with_reducible rfl) | omega)⟩) ((drew_below _ _).drew) ?_
                      refine wpAnyH_take (i := 4) (v := aggW ⟨x0, x1, x2, x3⟩) rfl (by kernel_rfl) (by kernel_rfl) (by kernel_rfl) (fun _ _ _ h => h) (Or.inl ⟨by rfl, by intro W hW; obtain ⟨g0, g1, g2, g3⟩ := ES.out W hW; go_simp; try (first | (with_reducible rfl) | omega)⟩) ((drew_below _ _).drew) ?_
                      refine wpAnyH_take (i := 5) (v := .int .i64 many) rfl (by kernel_rfl) (by kernel_rfl) (by kernel_rfl) (fun _ _ _ h => h) (Or.inl ⟨by rfl, by intro W hW; go_simp; try (first | (with_reducible rfl) | omega)⟩) ((drew_below _ _).drew) ?_
                      refine wpAnyH_one (i := 6) (by kernel_rfl) rfl (fun K hK => ?_)
                      go_simp
                      refine Calls.mono (cr9.out _) ?_
                      rintro e w5 ⟨rfl, hb5⟩
                      have hS5 := bl_trans ((drew_below _ _).drew) (by simp) hb5
                      go_simp
                      refine hK _ _ ⟨hS5, ?_⟩; clear hK K
                      refine wpAnyH_one (i := 7) (by kernel_rfl) rfl (fun K hK => ?_)
                      go_simp
                      refine Calls.mono (ci.out _) ?_
                      rintro e w6 ⟨rfl, hb6⟩
                      have hS6 := bl_trans hS5 hS5.size hb6
                      go_simp
                      refine hK _ _ ⟨hS6, ?_⟩; clear hK K
                      refine wpAnyH_one (i := 8) (by kernel_rfl) rfl (fun K hK => ?_)
                      go_simp
                      refine hK _ _ ⟨hS6, ?_⟩; clear hK K
                      refine wpAnyH_one (i := 9) (by kernel_rfl) rfl (fun K hK => ?_)
                      go_simp
                      refine hK _ _ ⟨hS6, ?_⟩; clear hK K
                      refine wpAnyH_done (by kernel_rfl) ?_ _
                      go_simp
                      have HI6 := Lib.hid (HI.out.on hS6)
                      clear HI z0 z1 fz0 fz1 q0 q1 s0 s1 s2 s3 p0 p1 fp0 fp1 hS5 hS6 hb5 hb6 ES EQ cr9 ci hv
                      have q0 : w6.cell? ⟨b, 0, none⟩ = some (.slice A14 n14 c14) := HI6.out.j.qc.at_ 0 _ rfl
                      have q1 : w6.cell? ⟨b, 1, none⟩ = some (.int .i64 0) := HI6.out.j.qc.at_ 1 _ rfl
                      have p0 : w6.cell? ⟨w.heap.size, 0, none⟩ = some (.slice pA pn pc) := HI6.out.j.d.pc.at_ 0 _ rfl
                      have p1 : w6.cell? ⟨w.heap.size, 1, none⟩ = some (.int .i64 0) := HI6.out.j.d.pc.at_ 1 _ rfl
                      have fp0 := HI6.out.j.d.pc.fz 0 (by simp)
                      have fp1 := HI6.out.j.d.pc.fz 1 (by simp)
                      have hE0 : TR.e ⟨u, ⟨x0, x1, x2, x3⟩, l5, if insW ⟨x0, x1, x2, x3⟩ RG = true then (if lkO xs ⟨x0, x1, x2, x3⟩ = true then failM 0 5 else 0) else failM (if lkO xs ⟨x0, x1, x2, x3⟩ = true then failM 0 5 else 0) 14⟩ = 0 := by
                        show (if insW ⟨x0, x1, x2, x3⟩ RG = true then (if lkO xs ⟨x0, x1, x2, x3⟩ = true then failM 0 5 else 0) else failM (if lkO xs ⟨x0, x1, x2, x3⟩ = true then failM 0 5 else 0) 14) = 0
                        rw [HLK.out, HIN.out]
                        rfl
                      have hnx := HT.out.next hxl HX.out (by rw [HRT.out]; exact hE0)
                      have HN : Hid (TabR N many (xs ++ List.replicate u ⟨x0, x1, x2, x3⟩) l5 R) := Lib.hid (by have := hnx; rw [HRT.out] at this; exact this)
                      clear hnx hE0 HT HX HRT HIN HLK
                      have hul : u ≤ left := by omega
                      go_wp2_with fail
                      have HI7 := Lib.hid HI6.out.back
                      clear q0 q1 p0 p1 fp0 fp1 HI6
                      obtain ⟨w7, hwE⟩ : ∃ W, ((w6.setCell ⟨w.heap.size, 0, none⟩ (.slice A14 n14 c14)).setCell ⟨w.heap.size, 1, none⟩ (.int .i64 0)) = W := ⟨_, rfl⟩
                      have HI8 : Hid (DocI w B ⟨A14, n14, c14, 0, l5⟩ (some ⟨r9, 0, none⟩) k c xs b ⟨A14, n14, c14, 0, l5⟩ ⟨x0, x1, x2, x3⟩ w7) := Lib.hid (by rw [← hwE]; exact HI7.out)
                      rw [hwE]
                      clear hwE HI7
                      obtain ⟨wo, hwo⟩ : ∃ wo : World, wo = wr := ⟨_, rfl⟩
                      subst hwo
                      go_loopw [8, 13] (fun o j wr => ∃ (q : Nat) (A2 : Option Addr) (c2 : Nat), o = .slice A2 (k + q) c2 ∧ j = .int .u64 q ∧ q ≤ u ∧ Hid (DocI w B ⟨A14, n14, c14, 0, l5⟩ A2 (k + q) c2 (xs ++ List.replicate q ⟨x0, x1, x2, x3⟩) b ⟨A14, n14, c14, 0, l5⟩ ⟨x0, x1, x2, x3⟩ wr)) (fun _ j _ => u - (intOf j).toNat)
                      case atStart => exact ⟨0, some ⟨r9, 0, none⟩, c, rfl, rfl, Nat.zero_le _, Lib.hid (by rw [List.replicate_zero, List.append_nil]; exact HI8.out)⟩
                      case round =>
                        obtain ⟨q, A2, c2, rfl, rfl, hq, HQ⟩ := hrel
                        have q1 : wr.cell? ⟨b, 1, none⟩ = some (.int .i64 0) := HQ.out.j.qc.at_ 1 _ rfl
                        by_cases hqt : q < u
                        · have hqT : (q : Int) < (u : Int) := by omega
                          have hq0 : (0 : Int) ≤ (q : Int) := by omega
                          have s0 : wr.cell? ⟨b + 1, 0, none⟩ = some (.int .u64 (x0 : Int)) := HQ.out.sc.at_ 0 _ rfl
                          have s1 : wr.cell? ⟨b + 1, 1, none⟩ = some (.int .u64 (x1 : Int)) := HQ.out.sc.at_ 1 _ rfl
                          have s2 : wr.cell? ⟨b + 1, 2, none⟩ = some (.int .u64 (x2 : Int)) := HQ.out.sc.at_ 2 _ rfl
                          have s3 : wr.cell? ⟨b + 1, 3, none⟩ = some (.int .u64 (x3 : Int)) := HQ.out.sc.at_ 3 _ rfl
                          have hsrc := Lib.hid (set_src wr ⟨x0, x1, x2, x3⟩)
                          have hone := Lib.hid (set_one ⟨x0, x1, x2, x3⟩)
                          have hzb : w.heap.size + 2 ≤ (wr.alloc (.cells #[.int .u64 (x0 : Int), .int .u64 (x1 : Int), .int .u64 (x2 : Int), .int .u64 (x3 : Int)] 41)).heap.size := by have := HQ.out.j.d.zc.lt; simp; omega
                          have hown := Lib.hid (HQ.out.j.d.own.alloc (.cells #[.int .u64 (x0 : Int), .int .u64 (x1 : Int), .int .u64 (x2 : Int), .int .u64 (x3 : Int)] 41))
                          have hrep : Hid (xs ++ List.replicate q (⟨x0, x1, x2, x3⟩ : W4) ++ [⟨x0, x1, x2, x3⟩] = xs ++ List.replicate (q + 1) ⟨x0, x1, x2, x3⟩) := Lib.hid (by rw [List.append_assoc, List.replicate_succ'])
                          have hkq : k + q ≤ 200 := by omega
                          generalize xs ++ List.replicate q (⟨x0, x1, x2, x3⟩ : W4) = out at *
                          obtain ⟨kq, hkE⟩ : ∃ kq, k + q = kq := ⟨_, rfl⟩
                          rw [hkE] at HQ hown hkq ⊢
                          have HKE := Lib.hid hkE
                          clear hkE
                          go_wp2_with (first
                            | (at_builtin; go_must (refine wpList_append_src _ rfl _ _ 26 rfl (w.heap.size + 2) 41 i0 (.agg #[.int .u64 0, .int .u64 0, .int .u64 0, .int .u64 0]) 4 32 Try.underlying26 hi hz0 hz1 hz2 rfl (by decide) _ _ _ rfl hown.out (some ⟨wr.heap.size, 0, none⟩) 1 1 (cellsW ⟨x0, x1, x2, x3⟩) rfl hsrc.out hone.out (by unfold maxLen; omega) (by omega) hzb ?_)
                               intro v' w3 hown' hgrow3 hat3
                               obtain ⟨A', c', rfl, o3⟩ := HQ.out.snoc hown' hgrow3 hat3
                               have O3 := Lib.hid o3
                               clear hown' hgrow3 hat3 o3))
                          go_roundw
                          case rel => exact ⟨q + 1, A', c', by rw [← HKE.out]; rfl, by go_num, by omega, Lib.hid (by rw [← hrep.out, ← Nat.add_assoc, HKE.out]; exact O3.out)⟩
                          case measure => simp [intOf]; omega
                        · obtain rfl : q = u := by omega
                          have hEE : eAt w.heap.size wr ≤ 1 := by unfold eAt; split <;> (try split) <;> omega
                          have HEE := Lib.hid hEE
                          clear hEE
                          go_wp2_with fail
                          refine ⟨?rel0, ?measure⟩
                          case rel0 =>
                            repeat apply Exists.intro
                            refine ⟨?_, rfl⟩
                            exact ⟨xs ++ List.replicate q ⟨x0, x1, x2, x3⟩, A14, n14, c14, 0, l5, A2, k + q, c2, rfl, by omega, Lib.hid HQ.out.j.d, Lib.hid (.inl ⟨rfl, HN.out⟩)⟩
                          case measure =>
                            have h1 := HEA.out
                            have h2 := HEE.out
                            show 2 * (N - (k + q)) + eAt w.heap.size wr < 2 * (N - k) + eAt w.heap.size wo
                            omega
                  · go_wp2_with fail
                    go_quiet (fail)
                    clear heq hguard t0 t1 t2 t3
                    go_wp2_with fail
                    generalize hG : World.drewN v4 _ = wd
                    have HI6 := Lib.hid (HI.out.on (W' := wd) (by rw [← hG]; exact drew_below _ _))
                    clear hG
                    have HEE : Hid (¬ TR.e ⟨u, ⟨x0, x1, x2, x3⟩, l5, if insW ⟨x0, x1, x2, x3⟩ (rangeM 0 many) = true then (if lkO xs ⟨x0, x1, x2, x3⟩ = true then failM 0 5 else 0) else failM (if lkO xs ⟨x0, x1, x2, x3⟩ = true then failM 0 5 else 0) 14⟩ = 0) := by
                      refine Lib.hid ?_
                      show ¬ (if insW ⟨x0, x1, x2, x3⟩ (rangeM 0 many) = true then (if lkO xs ⟨x0, x1, x2, x3⟩ = true then failM 0 5 else 0) else failM (if lkO xs ⟨x0, x1, x2, x3⟩ = true then failM 0 5 else 0) 14) = 0
                      rw [HLK.out]
                      split <;> decide
                    have HRR : Hid ((([] : List W4), l5, if insW ⟨x0, x1, x2, x3⟩ (rangeM 0 many) = true then (if lkO xs ⟨x0, x1, x2, x3⟩ = true then failM 0 5 else 0) else failM (if lkO xs ⟨x0, x1, x2, x3⟩ = true then failM 0 5 else 0) 14) = (([] : List W4), l5, 5)) := by
                      refine Lib.hid ?_
                      rw [HLK.out]
                      congr 2; split <;> decide
                    refine (ref_Fail A14 n14 c14 0 5 _).mono ?_
                    rintro e' w8 ⟨rfl, hb8⟩
                    have HJ3 := Lib.hid (HI6.out.on hb8).j
                    clear hb8 z0 z1 fz0 fz1
                    unfold curV failM
                    rw [if_pos rfl]
                    have z0 : w8.cell? ⟨w.heap.size + 1, 0, none⟩ = some (.slice none 0 0) := HJ3.out.d.zc.at_ 0 _ rfl
                    have z1 : w8.cell? ⟨w.heap.size + 1, 1, none⟩ = some (.int .i64 0) := HJ3.out.d.zc.at_ 1 _ rfl
                    have fz0 := HJ3.out.d.zc.fz 0 (by simp)
                    have fz1 := HJ3.out.d.zc.fz 1 (by simp)
                    have hbad := HT.out.bad hxl HX.out (by rw [HRT.out]; exact HEE.out)
                    have hbad' : R = ([], l5, 5) := by rw [hbad, HRT.out]; exact HRR.out
                    clear hbad HT HX HRT
                    go_wp2_with fail
                    refine bodyPost_ret (v := .tuple #[.slice none 0 0, .agg #[.slice A14 n14 c14, .int .i64 (5 : Int)]]) (by simp [results, Try.results6, go_sem, z0, z1]) rfl ?_
                    subst hbad'
                    exact ⟨none, 0, 0, ⟨A14, n14, c14, 5, l5⟩, rfl, rfl, own_nilW _ _, (HJ3.out.res _ _).1, rfl, rfl, (HJ3.out.res _ _).2⟩
              · skip
                have q5 : ((e5 : Int) == 0) = false := by simp [he5]
                have HEE : Hid (¬ TR.e ⟨u, ⟨x0, x1, x2, x3⟩, l5, if insW ⟨x0, x1, x2, x3⟩ (rangeM 0 many) = true then (if lkO xs ⟨x0, x1, x2, x3⟩ = true then failM e5 5 else e5) else failM (if lkO xs ⟨x0, x1, x2, x3⟩ = true then failM e5 5 else e5) 14⟩ = 0) := by
                  refine Lib.hid ?_
                  show ¬ (if _ then (if _ then failM e5 5 else e5) else failM (if _ then failM e5 5 else e5) 14) = 0
                  unfold failM
                  rw [if_neg he5]
                  simp [he5]
                have HRR : Hid ((([] : List W4), l5, if insW ⟨x0, x1, x2, x3⟩ (rangeM 0 many) = true then (if lkO xs ⟨x0, x1, x2, x3⟩ = true then failM e5 5 else e5) else failM (if lkO xs ⟨x0, x1, x2, x3⟩ = true then failM e5 5 else e5) 14) = (([] : List W4), l5, e5)) := Lib.hid (by unfold failM; rw [if_neg he5]; simp [he5])
                have hbad := HT.out.bad hxl HX.out (by rw [HRT.out]; exact HEE.out)
                have hbad' : R = ([], l5, e5) := by rw [hbad, HRT.out]; exact HRR.out
                have HBD := Lib.hid hbad'
                clear hbad hbad' HT HX HRT HEE HRR
                rw [rounds_succ]
                go_wp2_with fail
                go_quiet (fail)
                go_wp2_with fail
                go_quiet (fail)
                go_wp2_with fail
                generalize hG : World.drewN v4 _ = wd
                have HI7 := Lib.hid (HI.out.on (W' := wd) (by rw [← hG]; exact drew_below _ _)).back
                clear hG q0 q1 s0 s1 s2 s3 p0 p1 fp0 fp1 z0 z1 fz0 fz1 HI
                obtain ⟨w7, hwE⟩ : ∃ W, ((wd.setCell ⟨w.heap.size, 0, none⟩ (.slice A14 n14 c14)).setCell ⟨w.heap.size, 1, none⟩ (.int .i64 (e5 : Int))) = W := ⟨_, rfl⟩
                rw [hwE] at HI7
                rw [hwE]
                clear hwE
                have q1 : w7.cell? ⟨b, 1, none⟩ = some (.int .i64 (e5 : Int)) := HI7.out.j.qc.at_ 1 _ rfl
                have HEB : Hid (eAt w.heap.size w7 = 0) := Lib.hid (by have h1 := HI7.out.j.d.pc.at_ 1 _ rfl; unfold eAt; rw [h1]; simp [he5])
                have hu0 : (0 : Int) < (u : Int) := by omega
                refine wp_loop_rounds 1 ?_
                rw [rounds_succ]
                go_wp2_with fail
                refine ⟨?rel0, ?measure⟩
                case rel0 =>
                  repeat apply Exists.intro
                  refine ⟨?_, rfl⟩
                  exact ⟨xs, A14, n14, c14, e5, l5, A, k, c, rfl, hk, Lib.hid HI7.out.j.d, Lib.hid (.inr ⟨he5, HBD.out⟩)⟩
                case measure =>
                  have h1 := HEA.out
                  have h2 := HEB.out
                  show 2 * (N - k) + eAt w.heap.size w7 < 2 * (N - k) + eAt w.heap.size wr
                  omega
        · have q1 : ((e1 : Int) == 0) = false := by simp [he1]
          have hm5 : manyM u e1 left = e1 := by simp [manyM, he1]
          rw [hm5] at hb0
          clear hm5
          go_wp2_with fail
          have HI := Lib.hid (HJ.out.toI (by simp))
          obtain ⟨b, hbE⟩ : ∃ b, w2.heap.size = b := ⟨_, rfl⟩
          rw [hbE] at HI
          rw [hbE]
          obtain ⟨w4, hwE⟩ : ∃ W, (w2.alloc (.cells #[.slice A1 n1 c1, .int .i64 (e1 : Int)] 29)).alloc (.cells #[.int .u64 0, .int .u64 0, .int .u64 0, .int .u64 0] 41) = W := ⟨_, rfl⟩
          have HI4 : Hid (DocI w B ⟨pA, pn, pc, 0, pl⟩ A k c xs b ⟨A1, n1, c1, e1, l1⟩ zW w4) := Lib.hid (by rw [← hwE]; exact HI.out)
          rw [hwE]
          clear hwE hbE HJ z0 z1 fz0 fz1 HI
          have HI := HI4
          clear HI4
          refine wp_loop_rounds 5 ?_
          have q0 : w4.cell? ⟨b, 0, none⟩ = some (.slice A1 n1 c1) := HI.out.j.qc.at_ 0 _ rfl
          have q1 : w4.cell? ⟨b, 1, none⟩ = some (.int .i64 (e1 : Int)) := HI.out.j.qc.at_ 1 _ rfl
          have hBw : B ≤ w4.heap.size := by have := HI.out.j.d.hB; have := HI.out.j.d.bw.size; omega
          have cb := ref_bits A1 n1 c1 e1 B l1 w4 HI.out.j.qs hBw
          rw [hb0] at cb
          unfold curV at cb
          have CB := Lib.hid cb
          clear cb
          rw [rounds_succ]
          go_wp2_with fail
          refine CB.out.mono ?_
          rintro e' w5 ⟨A11, n11, c11, rfl, hs, hb⟩
          have HI2 := Lib.hid (HI.out.on hb)
          clear HI CB q0 q1 hb hBw
          have HI := Lib.hid (HI2.out.round 0 x0 (by omega) ⟨A11, n11, c11, e2, l2⟩ hs)
          clear hs
          have s0 := HI2.out.sc.at_ 0 _ rfl
          have fs := HI2.out.sc.fz 0 (by simp [cellsW])
          have q0 := HI2.out.j.qc.at_ 0 _ rfl
          have q1 := HI2.out.j.qc.at_ 1 _ rfl
          have fq0 := HI2.out.j.qc.fz 0 (by simp)
          have fq1 := HI2.out.j.qc.fz 1 (by simp)
          clear HI2
          go_wp2_with fail
          obtain ⟨v1, hwE⟩ : ∃ W, ((w5.setCell ⟨b + 1, 0, none⟩ (.int .u64 (x0 : Int))).setCell ⟨b, 0, none⟩ (.slice A11 n11 c11)).setCell ⟨b, 1, none⟩ (.int .i64 (e2 : Int)) = W := ⟨_, rfl⟩
          rw [hwE] at HI
          rw [hwE]
          clear hwE s0 fs q0 q1 fq0 fq1
          have q0 : v1.cell? ⟨b, 0, none⟩ = some (.slice A11 n11 c11) := HI.out.j.qc.at_ 0 _ rfl
          have q1 : v1.cell? ⟨b, 1, none⟩ = some (.int .i64 (e2 : Int)) := HI.out.j.qc.at_ 1 _ rfl
          have hBw : B ≤ v1.heap.size := by have := HI.out.j.d.hB; have := HI.out.j.d.bw.size; omega
          have cb := ref_bits A11 n11 c11 e2 B l2 v1 HI.out.j.qs hBw
          rw [hb1] at cb
          unfold curV at cb
          have CB := Lib.hid cb
          clear cb
          rw [rounds_succ]
          go_wp2_with fail
          refine CB.out.mono ?_
          rintro e' w5 ⟨A12, n12, c12, rfl, hs, hb⟩
          have HI2 := Lib.hid (HI.out.on hb)
          clear HI CB q0 q1 hb hBw
          have HI := Lib.hid (HI2.out.round 1 x1 (by omega) ⟨A12, n12, c12, e3, l3⟩ hs)
          clear hs
          have s0 := HI2.out.sc.at_ 1 _ rfl
          have fs := HI2.out.sc.fz 1 (by simp [cellsW])
          have q0 := HI2.out.j.qc.at_ 0 _ rfl
          have q1 := HI2.out.j.qc.at_ 1 _ rfl
          have fq0 := HI2.out.j.qc.fz 0 (by simp)
          have fq1 := HI2.out.j.qc.fz 1 (by simp)
          clear HI2
          go_wp2_with fail
          obtain ⟨v2, hwE⟩ : ∃ W, ((w5.setCell ⟨b + 1, 1, none⟩ (.int .u64 (x1 : Int))).setCell ⟨b, 0, none⟩ (.slice A12 n12 c12)).setCell ⟨b, 1, none⟩ (.int .i64 (e3 : Int)) = W := ⟨_, rfl⟩
          rw [hwE] at HI
          rw [hwE]
          clear hwE s0 fs q0 q1 fq0 fq1
          have q0 : v2.cell? ⟨b, 0, none⟩ = some (.slice A12 n12 c12) := HI.out.j.qc.at_ 0 _ rfl
          have q1 : v2.cell? ⟨b, 1, none⟩ = some (.int .i64 (e3 : Int)) := HI.out.j.qc.at_ 1 _ rfl
          have hBw : B ≤ v2.heap.size := by have := HI.out.j.d.hB; have := HI.out.j.d.bw.size; omega
          have cb := ref_bits A12 n12 c12 e3 B l3 v2 HI.out.j.qs hBw
          rw [hb2] at cb
          unfold curV at cb
          have CB := Lib.hid cb
          clear cb
          rw [rounds_succ]
          go_wp2_with fail
          refine CB.out.mono ?_
          rintro e' w5 ⟨A13, n13, c13, rfl, hs, hb⟩
          have HI2 := Lib.hid (HI.out.on hb)
          clear HI CB q0 q1 hb hBw
          have HI := Lib.hid (HI2.out.round 2 x2 (by omega) ⟨A13, n13, c13, e4, l4⟩ hs)
          clear hs
          have s0 := HI2.out.sc.at_ 2 _ rfl
          have fs := HI2.out.sc.fz 2 (by simp [cellsW])
          have q0 := HI2.out.j.qc.at_ 0 _ rfl
          have q1 := HI2.out.j.qc.at_ 1 _ rfl
          have fq0 := HI2.out.j.qc.fz 0 (by simp)
          have fq1 := HI2.out.j.qc.fz 1 (by simp)
          clear HI2
          go_wp2_with fail
          obtain ⟨v3, hwE⟩ : ∃ W, ((w5.setCell ⟨b + 1, 2, none⟩ (.int .u64 (x2 : Int))).setCell ⟨b, 0, none⟩ (.slice A13 n13 c13)).setCell ⟨b, 1, none⟩ (.int .i64 (e4 : Int)) = W := ⟨_, rfl⟩
          rw [hwE] at HI
          rw [hwE]
          clear hwE s0 fs q0 q1 fq0 fq1
          have q0 : v3.cell? ⟨b, 0, none⟩ = some (.slice A13 n13 c13) := HI.out.j.qc.at_ 0 _ rfl
          have q1 : v3.cell? ⟨b, 1, none⟩ = some (.int .i64 (e4 : Int)) := HI.out.j.qc.at_ 1 _ rfl
          have hBw : B ≤ v3.heap.size := by have := HI.out.j.d.hB; have := HI.out.j.d.bw.size; omega
          have cb := ref_bits A13 n13 c13 e4 B l4 v3 HI.out.j.qs hBw
          rw [hb3] at cb
          unfold curV at cb
          have CB := Lib.hid cb
          clear cb
          rw [rounds_succ]
          go_wp2_with fail
          refine CB.out.mono ?_
          rintro e' w5 ⟨A14, n14, c14, rfl, hs, hb⟩
          have HI2 := Lib.hid (HI.out.on hb)
          clear HI CB q0 q1 hb hBw
          have HI := Lib.hid (HI2.out.round 3 x3 (by omega) ⟨A14, n14, c14, e5, l5⟩ hs)
          clear hs
          have s0 := HI2.out.sc.at_ 3 _ rfl
          have fs := HI2.out.sc.fz 3 (by simp [cellsW])
          have q0 := HI2.out.j.qc.at_ 0 _ rfl
          have q1 := HI2.out.j.qc.at_ 1 _ rfl
          have fq0 := HI2.out.j.qc.fz 0 (by simp)
          have fq1 := HI2.out.j.qc.fz 1 (by simp)
          clear HI2
          go_wp2_with fail
          obtain ⟨v4, hwE⟩ : ∃ W, ((w5.setCell ⟨b + 1, 3, none⟩ (.int .u64 (x3 : Int))).setCell ⟨b, 0, none⟩ (.slice A14 n14 c14)).setCell ⟨b, 1, none⟩ (.int .i64 (e5 : Int)) = W := ⟨_, rfl⟩
          rw [hwE] at HI
          rw [hwE]
          clear hwE s0 fs q0 q1 fq0 fq1
          have HIS : Hid (DocI w B ⟨pA, pn, pc, 0, pl⟩ A k c xs b ⟨A14, n14, c14, e5, l5⟩ ⟨x0, x1, x2, x3⟩ v4) := HI
          clear HI
          have HI := HIS
          clear HIS
          have q0 : v4.cell? ⟨b, 0, none⟩ = some (.slice A14 n14 c14) := HI.out.j.qc.at_ 0 _ rfl
          have q1 : v4.cell? ⟨b, 1, none⟩ = some (.int .i64 (e5 : Int)) := HI.out.j.qc.at_ 1 _ rfl
          have s0 : v4.cell? ⟨b + 1, 0, none⟩ = some (.int .u64 (x0 : Int)) := HI.out.sc.at_ 0 _ rfl
          have s1 : v4.cell? ⟨b + 1, 1, none⟩ = some (.int .u64 (x1 : Int)) := HI.out.sc.at_ 1 _ rfl
          have s2 : v4.cell? ⟨b + 1, 2, none⟩ = some (.int .u64 (x2 : Int)) := HI.out.sc.at_ 2 _ rfl
          have s3 : v4.cell? ⟨b + 1, 3, none⟩ = some (.int .u64 (x3 : Int)) := HI.out.sc.at_ 3 _ rfl
          have p0 : v4.cell? ⟨w.heap.size, 0, none⟩ = some (.slice pA pn pc) := HI.out.j.d.pc.at_ 0 _ rfl
          have p1 : v4.cell? ⟨w.heap.size, 1, none⟩ = some (.int .i64 0) := HI.out.j.d.pc.at_ 1 _ rfl
          have fp0 := HI.out.j.d.pc.fz 0 (by simp)
          have fp1 := HI.out.j.d.pc.fz 1 (by simp)
          have z0 : v4.cell? ⟨w.heap.size + 1, 0, none⟩ = some (.slice none 0 0) := HI.out.j.d.zc.at_ 0 _ rfl
          have z1 : v4.cell? ⟨w.heap.size + 1, 1, none⟩ = some (.int .i64 0) := HI.out.j.d.zc.at_ 1 _ rfl
          have fz0 := HI.out.j.d.zc.fz 0 (by simp)
          have fz1 := HI.out.j.d.zc.fz 1 (by simp)
          have he5 : ¬ e5 = 0 := fun h => by
            subst h
            have h3 := bitsM_e (l := l4) (e := e4) (by rw [hb3])
            have h2 := bitsM_e (l := l3) (e := e3) (by rw [hb2, h3])
            have h1 := bitsM_e (l := l2) (e := e2) (by rw [hb1, h2])
            exact he1 (bitsM_e (l := l1) (e := e1) (by rw [hb0, h1]))
          clear hb0 hb1 hb2 hb3
          have q5 : ((e5 : Int) == 0) = false := by simp [he5]
          have HEE : Hid (¬ TR.e ⟨u, ⟨x0, x1, x2, x3⟩, l5, if insW ⟨x0, x1, x2, x3⟩ (rangeM 0 many) = true then (if lkO xs ⟨x0, x1, x2, x3⟩ = true then failM e5 5 else e5) else failM (if lkO xs ⟨x0, x1, x2, x3⟩ = true then failM e5 5 else e5) 14⟩ = 0) := by
            refine Lib.hid ?_
            show ¬ (if _ then (if _ then failM e5 5 else e5) else failM (if _ then failM e5 5 else e5) 14) = 0
            unfold failM
            rw [if_neg he5]
            simp [he5]
          have HRR : Hid ((([] : List W4), l5, if insW ⟨x0, x1, x2, x3⟩ (rangeM 0 many) = true then (if lkO xs ⟨x0, x1, x2, x3⟩ = true then failM e5 5 else e5) else failM (if lkO xs ⟨x0, x1, x2, x3⟩ = true then failM e5 5 else e5) 14) = (([] : List W4), l5, e5)) := Lib.hid (by unfold failM; rw [if_neg he5]; simp [he5])
          have hbad := HT.out.bad hxl HX.out (by rw [HRT.out]; exact HEE.out)
          have hbad' : R = ([], l5, e5) := by rw [hbad, HRT.out]; exact HRR.out
          have HBD := Lib.hid hbad'
          clear hbad hbad' HT HX HRT HEE HRR
          rw [rounds_succ]
          go_wp2_with fail
          go_quiet (fail)
          go_wp2_with fail
          go_quiet (fail)
          go_wp2_with fail
          generalize hG : World.drewN v4 _ = wd
          have HI7 := Lib.hid (HI.out.on (W' := wd) (by rw [← hG]; exact drew_below _ _)).back
          clear hG q0 q1 s0 s1 s2 s3 p0 p1 fp0 fp1 z0 z1 fz0 fz1 HI
          obtain ⟨w7, hwE⟩ : ∃ W, ((wd.setCell ⟨w.heap.size, 0, none⟩ (.slice A14 n14 c14)).setCell ⟨w.heap.size, 1, none⟩ (.int .i64 (e5 : Int))) = W := ⟨_, rfl⟩
          rw [hwE] at HI7
          rw [hwE]
          clear hwE
          have q1 : w7.cell? ⟨b, 1, none⟩ = some (.int .i64 (e5 : Int)) := HI7.out.j.qc.at_ 1 _ rfl
          have HEB : Hid (eAt w.heap.size w7 = 0) := Lib.hid (by have h1 := HI7.out.j.d.pc.at_ 1 _ rfl; unfold eAt; rw [h1]; simp [he5])
          obtain rfl := HU.out he1
          refine wp_loop_rounds 1 ?_
          rw [rounds_succ]
          go_wp2_with fail
          refine ⟨?rel0, ?measure⟩
          case rel0 =>
            repeat apply Exists.intro
            refine ⟨?_, rfl⟩
            exact ⟨xs, A14, n14, c14, e5, l5, A, k, c, rfl, hk, Lib.hid HI7.out.j.d, Lib.hid (.inr ⟨he5, HBD.out⟩)⟩
          case measure =>
            have h1 := HEA.out
            have h2 := HEB.out
            show 2 * (N - k) + eAt w.heap.size w7 < 2 * (N - k) + eAt w.heap.size wr
            omega

      · obtain rfl : k = N := by omega
        have HRE : Hid (R = (xs, pl, 0)) := Lib.hid (HT.out.done (by rw [hlen]; exact hlt))
        clear HT
        go_wp2_with fail
        refine wp_region_held (S := fun W => Kp (fun j => j = w.heap.size + 1) wr W) (by kernel_rfl) ?_
        change wpAnyH _ _ _ _ _ _ _ _ (World.drew _)
        have hS0 : Kp (fun j => j = w.heap.size + 1) wr wr.drew := (Kp.refl _ _).drew
        refine wpAnyH_take (i := 0) (v := .slice A k c) rfl (by kernel_rfl) (by kernel_rfl) (by kernel_rfl) (fun _ _ _ h => h) (Or.inl ⟨by rfl, by intro W hW; go_simp; try (first | (with_reducible rfl) | omega)⟩) hS0 ?_
        refine wpAnyH_take (i := 1) (v := .agg #[.slice pA pn pc, .int .i64 (0)]) rfl (by kernel_rfl) (by kernel_rfl) (by kernel_rfl) (fun _ _ _ h => h) (Or.inl ⟨by rfl, by intro W hW; have g0 := hW.cellv p0 (show ¬ w.heap.size = w.heap.size + 1 by omega); have g1 := hW.cellv p1 (show ¬ w.heap.size = w.heap.size + 1 by omega); go_simp; try (first | (with_reducible rfl) | omega)⟩) hS0 ?_
        refine wpAnyH_take (i := 2) (v := .slice A k c) rfl (by kernel_rfl) (by kernel_rfl) (by kernel_rfl) (fun _ _ _ h => h) (Or.inl ⟨by rfl, by intro W hW; go_simp; try (first | (with_reducible rfl) | omega)⟩) hS0 ?_
        refine wpAnyH_one (i := 3) (by kernel_rfl) rfl (fun K hK => ?_)
        go_simp
        refine hK _ _ ⟨(hS0.setCell (p := ⟨w.heap.size + 1, 0, none⟩) (fun _ => rfl) _).setCell (p := ⟨w.heap.size + 1, 1, none⟩) (fun _ => rfl) _, ?_⟩; clear hK K
        refine wpAnyH_done (by kernel_rfl) ?_ _
        go_simp
        go_wp2_with fail
        have HR9 := (HW.out.on (show Below wr.heap.size wr wr.drew from (Below.refl _ _).drew)).res (.slice pA pn pc) (.int .i64 (0))
        refine bodyPost_ret (v := .tuple #[.slice A k c, .agg #[.slice pA pn pc, .int .i64 (0)]]) (by simp [results, Try.results6, go_sem, z0, z1]) rfl ?_
        rw [HRE.out]
        exact ⟨A, k, c, ⟨pA, pn, pc, 0, pl⟩, rfl, hlen, HR9.1, HR9.2.1, rfl, rfl, HR9.2.2⟩
    · by_cases hlt : k < N
      · have hkN : (k : Int) < (N : Int) := by omega
        have q1 : ((pe : Int) == 0) = false := by simp [he]
        have q2 : ((pe : Int) != 0) = true := by simp [he]
        have HRE : Hid (R = ([], pl, pe)) := Lib.hid ((HR.out.resolve_left (fun h => he h.1)).2)
        clear HR
        go_wp2_with fail
        refine wp_region_held (S := fun W => Kp (fun j => j = w.heap.size + 1) wr W) (by kernel_rfl) ?_
        change wpAnyH _ _ _ _ _ _ _ _ (World.drew _)
        have hS0 : Kp (fun j => j = w.heap.size + 1) wr wr.drew := (Kp.refl _ _).drew
        refine wpAnyH_take (i := 0) (v := .agg #[.slice pA pn pc, .int .i64 (pe)]) rfl (by kernel_rfl) (by kernel_rfl) (by kernel_rfl) (fun _ _ _ h => h) (Or.inl ⟨by rfl, by intro W hW; have g0 := hW.cellv p0 (show ¬ w.heap.size = w.heap.size + 1 by omega); have g1 := hW.cellv p1 (show ¬ w.heap.size = w.heap.size + 1 by omega); go_simp; try (first | (with_reducible rfl) | omega)⟩) hS0 ?_
        refine wpAnyH_take (i := 1) (v := .slice none 0 0) rfl (by kernel_rfl) (by kernel_rfl) (by kernel_rfl) (fun _ _ _ h => h) (Or.inl ⟨by rfl, by intro W hW; go_simp; try (first | (with_reducible rfl) | omega)⟩) hS0 ?_
        refine wpAnyH_one (i := 2) (by kernel_rfl) rfl (fun K hK => ?_)
        go_simp
        refine hK _ _ ⟨(hS0.setCell (p := ⟨w.heap.size + 1, 0, none⟩) (fun _ => rfl) _).setCell (p := ⟨w.heap.size + 1, 1, none⟩) (fun _ => rfl) _, ?_⟩; clear hK K
        refine wpAnyH_done (by kernel_rfl) ?_ _
        go_simp
        go_wp2_with fail
        have HR9 := (HW.out.on (show Below wr.heap.size wr wr.drew from (Below.refl _ _).drew)).res (.slice pA pn pc) (.int .i64 (pe))
        refine bodyPost_ret (v := .tuple #[.slice none 0 0, .agg #[.slice pA pn pc, .int .i64 (pe)]]) (by simp [results, Try.results6, go_sem, z0, z1]) rfl ?_
        rw [HRE.out]
        exact ⟨none, 0, 0, ⟨pA, pn, pc, pe, pl⟩, rfl, rfl, own_nilW _ _, HR9.2.1, rfl, rfl, HR9.2.2⟩
      · obtain rfl : k = N := by omega
        have q1 : ((pe : Int) == 0) = false := by simp [he]
        have q2 : ((pe : Int) != 0) = true := by simp [he]
        have HRE : Hid (R = ([], pl, pe)) := Lib.hid ((HR.out.resolve_left (fun h => he h.1)).2)
        clear HR
        go_wp2_with fail
        refine wp_region_held (S := fun W => Kp (fun j => j = w.heap.size + 1) wr W) (by kernel_rfl) ?_
        change wpAnyH _ _ _ _ _ _ _ _ (World.drew _)
        have hS0 : Kp (fun j => j = w.heap.size + 1) wr wr.drew := (Kp.refl _ _).drew
        refine wpAnyH_take (i := 0) (v := .agg #[.slice pA pn pc, .int .i64 (pe)]) rfl (by kernel_rfl) (by kernel_rfl) (by kernel_rfl) (fun _ _ _ h => h) (Or.inl ⟨by rfl, by intro W hW; have g0 := hW.cellv p0 (show ¬ w.heap.size = w.heap.size + 1 by omega); have g1 := hW.cellv p1 (show ¬ w.heap.size = w.heap.size + 1 by omega); go_simp; try (first | (with_reducible rfl) | omega)⟩) hS0 ?_
        refine wpAnyH_take (i := 1) (v := .slice none 0 0) rfl (by kernel_rfl) (by kernel_rfl) (by kernel_rfl) (fun _ _ _ h => h) (Or.inl ⟨by rfl, by intro W hW; go_simp; try (first | (with_reducible rfl) | omega)⟩) hS0 ?_
        refine wpAnyH_one (i := 2) (by kernel_rfl) rfl (fun K hK => ?_)
        go_simp
        refine hK _ _ ⟨(hS0.setCell (p := ⟨w.heap.size + 1, 0, none⟩) (fun _ => rfl) _).setCell (p := ⟨w.heap.size + 1, 1, none⟩) (fun _ => rfl) _, ?_⟩; clear hK K
        refine wpAnyH_done (by kernel_rfl) ?_ _
        go_simp
        go_wp2_with fail
        have HR9 := (HW.out.on (show Below wr.heap.size wr wr.drew from (Below.refl _ _).drew)).res (.slice pA pn pc) (.int .i64 (pe))
        refine bodyPost_ret (v := .tuple #[.slice none 0 0, .agg #[.slice pA pn pc, .int .i64 (pe)]]) (by simp [results, Try.results6, go_sem, z0, z1]) rfl ?_
        rw [HRE.out]
        exact ⟨none, 0, 0, ⟨pA, pn, pc, pe, pl⟩, rfl, rfl, own_nilW _ _, HR9.2.1, rfl, rfl, HR9.2.2⟩

end Go.Proofs.Ytiblcodlaeijfaa
