/-
  Tables of sets: what stands in a table, and how often, one behind the other (maps.count).
-/
import Derived.Test.YtgjmmbhakjalgaaDoorTb1
import Derived.Deep.Cut
namespace Go.Proofs.YtgjmmbhakjalgaaDoor
open Go.RowKit
set_option linter.unusedSimpArgs false
set_option linter.unusedVariables false
def cellsC (p : W4 × Nat) : List Value := [.int .u64 (p.1.a0 : Int), .int .u64 (p.1.a1 : Int), .int .u64 (p.1.a2 : Int), .int .u64 (p.1.a3 : Int), .int .i64 (p.2 : Int)]
def cntStep (out : List (W4 × Nat)) (s : W4) : List (W4 × Nat) :=
  match out.getLast? with
  | none => [(s, 1)]
  | some p => if eqW p.1 s then out.dropLast ++ [(p.1, p.2 + 1)] else out ++ [(s, 1)]
def cntM (xs : List W4) : List (W4 × Nat) := xs.foldl cntStep []
theorem cntM_snoc (xs : List W4) (s : W4) : cntM (xs ++ [s]) = cntStep (cntM xs) s := by
  unfold cntM
  rw [List.foldl_append]
  rfl
theorem cntStep_nil (s : W4) : cntStep [] s = [(s, 1)] := rfl
theorem cntStep_same (pre : List (W4 × Nat)) (t : W4) (m : Nat) (s : W4) (h : eqW t s = true) : cntStep (pre ++ [(t, m)]) s = pre ++ [(t, m + 1)] := by
  unfold cntStep
  rw [List.getLast?_append]
  simp [h]
theorem cntStep_other (pre : List (W4 × Nat)) (t : W4) (m : Nat) (s : W4) (h : eqW t s = false) : cntStep (pre ++ [(t, m)]) s = pre ++ [(t, m)] ++ [(s, 1)] := by
  unfold cntStep
  rw [List.getLast?_append]
  simp [h]
theorem info_cnt : (Tryd.prog.info? 45).map (fun i => (i.zero, i.size, i.bytes)) = some (some (.agg #[.int .u64 0, .int .u64 0, .int .u64 0, .int .u64 0, .int .i64 0]), 5, 40) := by kernel_rfl
theorem cnt_src (w : World) (s : W4) (m : Int) : SrcCells (w.alloc (.cells #[.int .u64 (s.a0 : Int), .int .u64 (s.a1 : Int), .int .u64 (s.a2 : Int), .int .u64 (s.a3 : Int), .int .i64 m] 45)) (some ⟨w.heap.size, 0, none⟩) 1 5 [.int .u64 (s.a0 : Int), .int .u64 (s.a1 : Int), .int .u64 (s.a2 : Int), .int .u64 (s.a3 : Int), .int .i64 m] :=
  own_src (World.ownsRow_lit (base := w.heap.size) (e := 45) (size := 5) w #[.int .u64 (s.a0 : Int), .int .u64 (s.a1 : Int), .int .u64 (s.a2 : Int), .int .u64 (s.a3 : Int), .int .i64 m] 1 (Nat.le_refl _) (by unfold maxLen; omega) rfl)
theorem cnt_one (s : W4) (m : Int) : ∀ u ∈ [Value.int .u64 (s.a0 : Int), .int .u64 (s.a1 : Int), .int .u64 (s.a2 : Int), .int .u64 (s.a3 : Int), .int .i64 m], u.oneCell' = true := by
  intro u hu
  simp at hu
  rcases hu with rfl | rfl | rfl | rfl | rfl <;> rfl
theorem row_last {W : World} {base r k c : Nat} {e : TypeId} {P : List Value} {a0 a1 a2 a3 a4 : Value} (b0 b1 b2 b3 b4 : Value) (h : W.ownsRow base e 5 (.slice (some ⟨r, 0, none⟩) (k + 1) c) (k + 1) (P ++ [a0, a1, a2, a3, a4])) (hP : P.length = k * 5) :
    (((((W.setCell ⟨r, k * 5, none⟩ b0).setCell ⟨r, k * 5 + 1, none⟩ b1).setCell ⟨r, k * 5 + 2, none⟩ b2).setCell ⟨r, k * 5 + 3, none⟩ b3).setCell ⟨r, k * 5 + 4, none⟩ b4).ownsRow base e 5 (.slice (some ⟨r, 0, none⟩) (k + 1) c) (k + 1) (P ++ [b0, b1, b2, b3, b4]) := by
  have h5 := (((((h.stored (k * 5) b0).1.stored (k * 5 + 1) b1).1.stored (k * 5 + 2) b2).1.stored (k * 5 + 3) b3).1.stored (k * 5 + 4) b4).1
  have e5 : (((((P ++ [a0, a1, a2, a3, a4]).set (k * 5) b0).set (k * 5 + 1) b1).set (k * 5 + 2) b2).set (k * 5 + 3) b3).set (k * 5 + 4) b4 = P ++ [b0, b1, b2, b3, b4] := by
    rw [← hP]
    simp [List.set_append]
  rw [e5] at h5
  exact h5
structure CntW (w : World) (A : Option Addr) (k c : Nat) (out : List (W4 × Nat)) (t : W4) (m : Nat) (W : World) : Prop where
  len : out.length = k
  own : W.ownsRow (w.heap.size + 1) 45 5 (.slice A k c) k (out.flatMap cellsC)
  lc : Cells W w.heap.size (cellsC (t, m))
  last : (out = [] ∧ m = 0) ∨ ∃ pre, out = pre ++ [(t, m)] ∧ 0 < m
  bw : Below w.heap.size w W
theorem CntW.on {w : World} {A : Option Addr} {k c : Nat} {out : List (W4 × Nat)} {t : W4} {m : Nat} {W W' : World} (h : CntW w A k c out t m W) (hb : Below W.heap.size W W') : CntW w A k c out t m W' :=
  ⟨h.len, own_keep h.own hb, h.lc.kp ((Kp.refl (fun _ => False) W).ofBelow hb) id, h.last, h.bw.trans (hb.mono h.bw.size)⟩
theorem CntW.start (w : World) : CntW w none 0 0 [] zW 0 (w.alloc (.cells #[.int .u64 0, .int .u64 0, .int .u64 0, .int .u64 0, .int .i64 0] 45)) :=
  ⟨rfl, ⟨rfl, .inl ⟨rfl, rfl⟩⟩, Cells.new w [.int .u64 0, .int .u64 0, .int .u64 0, .int .u64 0, .int .i64 0] _, .inl ⟨rfl, rfl⟩, bl_one _⟩
/-- `last` set anew: the row is not touched. -/
theorem CntW.set {w : World} {A : Option Addr} {k c : Nat} {out : List (W4 × Nat)} {W : World} (h : W.ownsRow (w.heap.size + 1) 45 5 (.slice A k c) k (out.flatMap cellsC)) (q : Nat) (v : Value) : (W.setCell ⟨w.heap.size, q, none⟩ v).ownsRow (w.heap.size + 1) 45 5 (.slice A k c) k (out.flatMap cellsC) :=
  (kp_set W w.heap.size q v).own h fun j hj hs => by have := (h.lt j hj).1; have hs' : j = w.heap.size := hs; omega
theorem lenC (out : List (W4 × Nat)) : (out.flatMap cellsC).length = out.length * 5 := flatMap_len cellsC (fun _ => rfl) out
set_option maxRecDepth 100000 in
set_option maxHeartbeats 4000000 in
theorem count_any (A : Option Addr) (n c : Nat) (xs : List W4) (w : World) (h : SlW w w.heap.size A n c xs) (hn : n ≤ 100) :
    Calls Tryd.prog 20 #[.slice A n c] w fun e w' => ∃ A' k c', e = .returned (.slice A' k c') ∧ (cntM xs).length = k ∧ k ≤ n ∧ w'.ownsRow w.heap.size 45 5 (.slice A' k c') k ((cntM xs).flatMap cellsC) ∧ Below w.heap.size w w' := by
  obtain ⟨i0, hi, hz0, hz1, hz2⟩ := info_parts info_cnt
  have H := Lib.hid h
  have HLN : Hid (xs.length = n) := Lib.hid h.1
  have hguard := eq_guard
  have C0 := Lib.hid (CntW.start w)
  clear h
  go_enter Tryd.func20, Tryd.ntmps20
  go_wp2_with fail
  go_loopw [3, 10] (fun o i wr => ∃ (q : Nat) (A1 : Option Addr) (k c1 m : Nat) (t : W4), o = .slice A1 k c1 ∧ i = .int .i64 q ∧ q ≤ n ∧ k ≤ q ∧ m ≤ q ∧ Hid (CntW w A1 k c1 (cntM (xs.take q)) t m wr)) (fun _ i _ => n - (intOf i).toNat)
  case atStart => exact ⟨0, none, 0, 0, 0, zW, rfl, rfl, Nat.zero_le _, Nat.le_refl _, Nat.le_refl _, C0⟩
  case round =>
    obtain ⟨q, A1, k, c1, m, t, rfl, rfl, hq, hkq, hmq, HC⟩ := hrel
    by_cases hlt : q < n
    · obtain ⟨r, off, x, rfl, hr, hx, hc⟩ := H.out.get hlt
      obtain ⟨q0, q1, q2, q3⟩ := hc wr HC.out.bw
      have hq0 : (0 : Int) ≤ (q : Int) := by omega
      have hqn : (q : Int) < (n : Int) := by omega
      obtain ⟨w1, hw1⟩ : ∃ w1, wr.alloc (.cells #[.int .u64 (x.a0 : Int), .int .u64 (x.a1 : Int), .int .u64 (x.a2 : Int), .int .u64 (x.a3 : Int)] 27) = w1 := ⟨_, rfl⟩
      have hb1 : Below wr.heap.size wr w1 := by rw [← hw1]; exact bl_one _
      have hcl : Cells w1 wr.heap.size [.int .u64 (x.a0 : Int), .int .u64 (x.a1 : Int), .int .u64 (x.a2 : Int), .int .u64 (x.a3 : Int)] := by rw [← hw1]; exact Cells.new wr [.int .u64 (x.a0 : Int), .int .u64 (x.a1 : Int), .int .u64 (x.a2 : Int), .int .u64 (x.a3 : Int)] _
      have z0 : w1.cell? ⟨wr.heap.size, 0, none⟩ = some (.int .u64 (x.a0 : Int)) := hcl.at_ 0 _ rfl
      have z1 : w1.cell? ⟨wr.heap.size, 1, none⟩ = some (.int .u64 (x.a1 : Int)) := hcl.at_ 1 _ rfl
      have z2 : w1.cell? ⟨wr.heap.size, 2, none⟩ = some (.int .u64 (x.a2 : Int)) := hcl.at_ 2 _ rfl
      have z3 : w1.cell? ⟨wr.heap.size, 3, none⟩ = some (.int .u64 (x.a3 : Int)) := hcl.at_ 3 _ rfl
      have C1 : Hid (CntW w A1 k c1 (cntM (xs.take q)) t m w1) := Lib.hid (HC.out.on hb1)
      have hgw : ¬ w.heap.size = wr.heap.size := by have := HC.out.lc.lt; omega
      have hgw' : ¬ wr.heap.size = w.heap.size := fun e => hgw e.symm
      have l0 : w1.cell? ⟨w.heap.size, 0, none⟩ = some (.int .u64 (t.a0 : Int)) := C1.out.lc.at_ 0 _ rfl
      have l1 : w1.cell? ⟨w.heap.size, 1, none⟩ = some (.int .u64 (t.a1 : Int)) := C1.out.lc.at_ 1 _ rfl
      have l2 : w1.cell? ⟨w.heap.size, 2, none⟩ = some (.int .u64 (t.a2 : Int)) := C1.out.lc.at_ 2 _ rfl
      have l3 : w1.cell? ⟨w.heap.size, 3, none⟩ = some (.int .u64 (t.a3 : Int)) := C1.out.lc.at_ 3 _ rfl
      have l4 : w1.cell? ⟨w.heap.size, 4, none⟩ = some (.int .i64 (m : Int)) := C1.out.lc.at_ 4 _ rfl
      have f0 : w1.frozen? ⟨w.heap.size, 0, none⟩ = false := C1.out.lc.fz 0 (by simp [cellsC])
      have f1 : w1.frozen? ⟨w.heap.size, 1, none⟩ = false := C1.out.lc.fz 1 (by simp [cellsC])
      have f2 : w1.frozen? ⟨w.heap.size, 2, none⟩ = false := C1.out.lc.fz 2 (by simp [cellsC])
      have f3 : w1.frozen? ⟨w.heap.size, 3, none⟩ = false := C1.out.lc.fz 3 (by simp [cellsC])
      have f4 : w1.frozen? ⟨w.heap.size, 4, none⟩ = false := C1.out.lc.fz 4 (by simp [cellsC])
      have HX : Hid (cntM (xs.take (q + 1)) = cntStep (cntM (xs.take q)) x) := Lib.hid (by rw [← take_snoc' xs q x hx, cntM_snoc])
      have heq : ∀ W, (Op.equalIn 10000 27 (aggW t) (aggW x)).run Tryd.prog W = .ok (eqW t x) W := fun W => eq_arr 9998 t.a0 t.a1 t.a2 t.a3 x.a0 x.a1 x.a2 x.a3 W
      clear hc hx hr hcl hb1 HC
      by_cases hm0 : 0 < m
      · obtain ⟨pre, hpre, _⟩ : ∃ pre, cntM (xs.take q) = pre ++ [(t, m)] ∧ 0 < m := by
          rcases C1.out.last with ⟨_, h⟩ | h
          · omega
          · exact h
        rw [hpre] at C1 HX
        clear hpre
        have hm1 : decide ((m : Int) > 0) = true := by simp; omega
        have hm2 : decide ((0 : Int) < (m : Int)) = true := by simp; omega
        have hm3 : (0 : Int) < (m : Int) := by omega
        have hm4 : decide (0 < m) = true := by simp; omega
        have hlen := C1.out.len
        obtain ⟨k', rfl⟩ : ∃ k', k = k' + 1 := ⟨pre.length, by rw [← hlen]; simp⟩
        have hk1 : ((k' + 1 : Nat) : Int) - 1 = (k' : Int) := by omega
        obtain ⟨rr, rfl⟩ : ∃ rr, A1 = some ⟨rr, 0, none⟩ := by
          obtain ⟨A2, c2, e, hA0, hA1⟩ := own_form C1.out.own
          simp only [Value.slice.injEq, true_and] at e
          obtain ⟨rfl, rfl⟩ := e
          cases A1 with
          | none => exact absurd (hA0 rfl) (by omega)
          | some ad => obtain ⟨g9, e9, _⟩ := hA1 ad rfl; exact ⟨g9, by rw [e9]⟩
        have hlr := C1.out.own.lt rr rfl
        have hgr : ¬ rr = w.heap.size := by omega
        have hgr' : ¬ w.heap.size = rr := by omega
        by_cases he : eqW t x = true
        · rw [he] at heq
          have HX2 : Hid (cntM (xs.take (q + 1)) = pre ++ [(t, m + 1)]) := Lib.hid (by rw [HX.out, cntStep_same _ _ _ _ he])
          have e0 := C1.out.own.frozenAt (k' * 5)
          have e1 := C1.out.own.frozenAt (k' * 5 + 1)
          have e2 := C1.out.own.frozenAt (k' * 5 + 2)
          have e3 := C1.out.own.frozenAt (k' * 5 + 3)
          have e4 := C1.out.own.frozenAt (k' * 5 + 4)
          have HPL : Hid (pre.length = k') := Lib.hid (by have := hlen; simp at this; omega)
          have key : ∀ j v, (cellsC (t, m))[j]? = some v → j < 5 → w1.cell? ⟨rr, k' * 5 + j, none⟩ = some v := fun j v hj hj5 => by
            rw [C1.out.own.cellAt (k' * 5 + j) (by omega)]
            exact flatMap_at cellsC (fun _ => rfl) (pre ++ [(t, m)]) k' j (t, m) v hj5 (by rw [← HPL.out]; simp) hj
          have d0 : w1.cell? ⟨rr, k' * 5, none⟩ = some (.int .u64 (t.a0 : Int)) := key 0 _ rfl (by omega)
          have d1 : w1.cell? ⟨rr, k' * 5 + 1, none⟩ = some (.int .u64 (t.a1 : Int)) := key 1 _ rfl (by omega)
          have d2 : w1.cell? ⟨rr, k' * 5 + 2, none⟩ = some (.int .u64 (t.a2 : Int)) := key 2 _ rfl (by omega)
          have d3 : w1.cell? ⟨rr, k' * 5 + 3, none⟩ = some (.int .u64 (t.a3 : Int)) := key 3 _ rfl (by omega)
          have d4 : w1.cell? ⟨rr, k' * 5 + 4, none⟩ = some (.int .i64 (m : Int)) := key 4 _ rfl (by omega)
          have F : Hid (CntW w (some ⟨rr, 0, none⟩) (k' + 1) c1 (pre ++ [(t, m + 1)]) t (m + 1) ((((((w1.setCell ⟨w.heap.size, 4, none⟩ (.int .i64 ((m : Int) + 1))).setCell ⟨rr, k' * 5, none⟩ (.int .u64 (t.a0 : Int))).setCell ⟨rr, k' * 5 + 1, none⟩ (.int .u64 (t.a1 : Int))).setCell ⟨rr, k' * 5 + 2, none⟩ (.int .u64 (t.a2 : Int))).setCell ⟨rr, k' * 5 + 3, none⟩ (.int .u64 (t.a3 : Int))).setCell ⟨rr, k' * 5 + 4, none⟩ (.int .i64 ((m : Int) + 1)))) := Lib.hid (by
            have h1 := CntW.set C1.out.own 4 (.int .i64 ((m : Int) + 1))
            rw [List.flatMap_append] at h1
            have h2 := row_last (.int .u64 (t.a0 : Int)) (.int .u64 (t.a1 : Int)) (.int .u64 (t.a2 : Int)) (.int .u64 (t.a3 : Int)) (.int .i64 ((m : Int) + 1)) (a0 := .int .u64 (t.a0 : Int)) (a1 := .int .u64 (t.a1 : Int)) (a2 := .int .u64 (t.a2 : Int)) (a3 := .int .u64 (t.a3 : Int)) (a4 := .int .i64 (m : Int)) h1 (by rw [lenC, HPL.out])
            have hk : ∀ W : World, Kp (fun j => j = rr) W (((((W.setCell ⟨rr, k' * 5, none⟩ (.int .u64 (t.a0 : Int))).setCell ⟨rr, k' * 5 + 1, none⟩ (.int .u64 (t.a1 : Int))).setCell ⟨rr, k' * 5 + 2, none⟩ (.int .u64 (t.a2 : Int))).setCell ⟨rr, k' * 5 + 3, none⟩ (.int .u64 (t.a3 : Int))).setCell ⟨rr, k' * 5 + 4, none⟩ (.int .i64 ((m : Int) + 1))) := fun W =>
              ((((kp_set W rr _ _).trans (kp_set _ rr _ _)).trans (kp_set _ rr _ _)).trans (kp_set _ rr _ _)).trans (kp_set _ rr _ _)
            refine ⟨by simp [HPL.out], ?_, ?_, .inr ⟨pre, rfl, by omega⟩, ?_⟩
            · rw [List.flatMap_append]
              exact h2
            · exact (C1.out.lc.put 4 (by simp [cellsC]) (.int .i64 ((m : Int) + 1))).kp (hk _) hgr'
            · have hb := C1.out.bw
              exact (hb.trans ((kp_set w1 w.heap.size 4 _).below hb.size fun j hj => by omega)).trans ((hk _).below (by simpa [World.setCell] using hb.size) fun j hj => by omega))
          clear HX he hlen hlr key C1
          go_wp2_with fail
          go_roundw
          case rel => exact ⟨q + 1, some ⟨rr, 0, none⟩, k' + 1, c1, m + 1, t, rfl, by go_num, by omega, by omega, by omega, Lib.hid (by rw [HX2.out]; exact F.out)⟩
          case measure => simp [intOf]; omega
        · have he' : eqW t x = false := by simpa using he
          rw [he'] at heq
          have HX2 : Hid (cntM (xs.take (q + 1)) = pre ++ [(t, m)] ++ [(x, 1)]) := Lib.hid (by rw [HX.out, cntStep_other _ _ _ _ he'])
          clear he he' hlen hlr
          obtain ⟨k, hkE⟩ : ∃ k, k' + 1 = k := ⟨_, rfl⟩
          obtain ⟨A1, hAE⟩ : ∃ A1, some (⟨rr, 0, none⟩ : Addr) = A1 := ⟨_, rfl⟩
          rw [hkE, hAE] at C1
          rw [hkE] at hkq
          rw [hkE, hAE]
          clear hkE hAE hk1 hgr hgr'
          have F5 : Hid ((((((w1.setCell ⟨w.heap.size, 0, none⟩ (.int .u64 (x.a0 : Int))).setCell ⟨w.heap.size, 1, none⟩ (.int .u64 (x.a1 : Int))).setCell ⟨w.heap.size, 2, none⟩ (.int .u64 (x.a2 : Int))).setCell ⟨w.heap.size, 3, none⟩ (.int .u64 (x.a3 : Int))).setCell ⟨w.heap.size, 4, none⟩ (.int .i64 1)).ownsRow (w.heap.size + 1) 45 5 (.slice A1 k c1) k ((pre ++ [(t, m)]).flatMap cellsC) ∧ Cells (((((w1.setCell ⟨w.heap.size, 0, none⟩ (.int .u64 (x.a0 : Int))).setCell ⟨w.heap.size, 1, none⟩ (.int .u64 (x.a1 : Int))).setCell ⟨w.heap.size, 2, none⟩ (.int .u64 (x.a2 : Int))).setCell ⟨w.heap.size, 3, none⟩ (.int .u64 (x.a3 : Int))).setCell ⟨w.heap.size, 4, none⟩ (.int .i64 1)) w.heap.size (cellsC (x, 1)) ∧ (pre ++ [(t, m)]).length = k ∧ Below w.heap.size w (((((w1.setCell ⟨w.heap.size, 0, none⟩ (.int .u64 (x.a0 : Int))).setCell ⟨w.heap.size, 1, none⟩ (.int .u64 (x.a1 : Int))).setCell ⟨w.heap.size, 2, none⟩ (.int .u64 (x.a2 : Int))).setCell ⟨w.heap.size, 3, none⟩ (.int .u64 (x.a3 : Int))).setCell ⟨w.heap.size, 4, none⟩ (.int .i64 1))) := Lib.hid ⟨CntW.set (CntW.set (CntW.set (CntW.set (CntW.set C1.out.own 0 _) 1 _) 2 _) 3 _) 4 _, ((((C1.out.lc.put 0 (by simp [cellsC]) (.int .u64 (x.a0 : Int))).put 1 (by simp [cellsC]) (.int .u64 (x.a1 : Int))).put 2 (by simp [cellsC]) (.int .u64 (x.a2 : Int))).put 3 (by simp [cellsC]) (.int .u64 (x.a3 : Int))).put 4 (by simp [cellsC]) (.int .i64 1), C1.out.len, C1.out.bw.trans ((((((kp_set w1 w.heap.size 0 _).trans (kp_set _ _ 1 _)).trans (kp_set _ _ 2 _)).trans (kp_set _ _ 3 _)).trans (kp_set _ _ 4 _)).below C1.out.bw.size fun j hj => by omega)⟩
          go_upto_region 10 with fail
          obtain ⟨w5, hw5⟩ : ∃ W, (((((w1.setCell ⟨w.heap.size, 0, none⟩ (.int .u64 (x.a0 : Int))).setCell ⟨w.heap.size, 1, none⟩ (.int .u64 (x.a1 : Int))).setCell ⟨w.heap.size, 2, none⟩ (.int .u64 (x.a2 : Int))).setCell ⟨w.heap.size, 3, none⟩ (.int .u64 (x.a3 : Int))).setCell ⟨w.heap.size, 4, none⟩ (.int .i64 1)) = W := ⟨_, rfl⟩
          rw [hw5] at F5 ⊢
          have g0 : w5.cell? ⟨w.heap.size, 0, none⟩ = some (.int .u64 (x.a0 : Int)) := F5.out.2.1.at_ 0 _ rfl
          have g1 : w5.cell? ⟨w.heap.size, 1, none⟩ = some (.int .u64 (x.a1 : Int)) := F5.out.2.1.at_ 1 _ rfl
          have g2 : w5.cell? ⟨w.heap.size, 2, none⟩ = some (.int .u64 (x.a2 : Int)) := F5.out.2.1.at_ 2 _ rfl
          have g3 : w5.cell? ⟨w.heap.size, 3, none⟩ = some (.int .u64 (x.a3 : Int)) := F5.out.2.1.at_ 3 _ rfl
          have g4 : w5.cell? ⟨w.heap.size, 4, none⟩ = some (.int .i64 1) := F5.out.2.1.at_ 4 _ rfl
          have hsrc : Hid (SrcCells (w5.alloc (.cells #[.int .u64 (x.a0 : Int), .int .u64 (x.a1 : Int), .int .u64 (x.a2 : Int), .int .u64 (x.a3 : Int), .int .i64 1] 45)) (some ⟨w5.heap.size, 0, none⟩) 1 5 [.int .u64 (x.a0 : Int), .int .u64 (x.a1 : Int), .int .u64 (x.a2 : Int), .int .u64 (x.a3 : Int), .int .i64 1]) := Lib.hid (cnt_src _ x 1)
          have hzb : Hid (w.heap.size + 1 ≤ (w5.alloc (.cells #[.int .u64 (x.a0 : Int), .int .u64 (x.a1 : Int), .int .u64 (x.a2 : Int), .int .u64 (x.a3 : Int), .int .i64 1] 45)).heap.size) := Lib.hid (by have := F5.out.2.1.lt; simp; omega)
          clear C1 HX hw5 l0 l1 l2 l3 l4 f0 f1 f2 f3 f4 z0 z1 z2 z3 q0 q1 q2 q3 hw1 heq
          go_wp2_with (first
            | (at_builtin; go_must (refine wpList_append_src _ rfl _ _ 42 rfl (w.heap.size + 1) 45 i0 (.agg #[.int .u64 0, .int .u64 0, .int .u64 0, .int .u64 0, .int .i64 0]) 5 40 Tryd.underlying42 hi hz0 hz1 hz2 rfl (by decide) _ _ _ rfl (F5.out.1.alloc _) (some ⟨w5.heap.size, 0, none⟩) 1 1 [.int .u64 (x.a0 : Int), .int .u64 (x.a1 : Int), .int .u64 (x.a2 : Int), .int .u64 (x.a3 : Int), .int .i64 1] rfl hsrc.out (cnt_one x 1) (by unfold maxLen; omega) (by omega) hzb.out ?_)
               go_loud (
                 intro v' w3 hown' hgrow3 hat3
                 have X : Hid (∃ A' c', v' = .slice A' (k + 1) c' ∧ CntW w A' (k + 1) c' ((pre ++ [(t, m)]) ++ [(x, 1)]) x 1 w3) := Lib.hid (by
                   obtain ⟨A', c', rfl, _⟩ := own_form hown'
                   refine ⟨A', c', rfl, ?_⟩
                   have hgk : Kp (fun j => (Value.slice A1 k c1).ownBlock = some j) w5 w3 := ((Kp.refl _ w5).alloc _).ofGrown hgrow3 fun j hj _ => hj
                   have hlt : ∀ j, (Value.slice A1 k c1).ownBlock = some j → w.heap.size + 1 ≤ j := fun j hj => (F5.out.1.lt _ hj).1
                   refine ⟨by rw [List.length_append, F5.out.2.2.1]; rfl, by rw [List.flatMap_append]; simpa [cellsC] using hown', ?_, .inr ⟨_, rfl, by omega⟩, F5.out.2.2.2.trans (hgk.below F5.out.2.2.2.size fun j hj => by have := hlt j hj; omega)⟩
                   exact F5.out.2.1.kp hgk fun hj => by have h1 := hlt _ hj; have h2 : w.heap.size + 1 ≤ w.heap.size := h1; omega)
                 obtain ⟨A', c', rfl, X1⟩ := X.out
                 have XR := Lib.hid X1
                 clear X X1 hown' hgrow3 hat3)))
          go_roundw
          case rel => exact ⟨q + 1, A', k + 1, c', 1, x, rfl, by go_num, by omega, by omega, by omega, Lib.hid (by rw [HX2.out]; exact XR.out)⟩
          case measure => simp [intOf]; omega
      · have hnil : cntM (xs.take q) = [] := by
          rcases C1.out.last with ⟨h, _⟩ | ⟨_, _, h⟩
          · exact h
          · omega
        rw [hnil] at C1 HX
        have HX2 : Hid (cntM (xs.take (q + 1)) = [] ++ [(x, 1)]) := Lib.hid (by rw [HX.out, cntStep_nil]; rfl)
        have hm1 : decide ((m : Int) > 0) = false := by simp; omega
        have hm2 : decide ((0 : Int) < (m : Int)) = false := by simp; omega
        have hm3 : ¬ (0 : Int) < (m : Int) := by omega
        have hm4 : decide (0 < m) = false := by simp; omega
        clear hnil hm0
        have F5 : Hid ((((((w1.setCell ⟨w.heap.size, 0, none⟩ (.int .u64 (x.a0 : Int))).setCell ⟨w.heap.size, 1, none⟩ (.int .u64 (x.a1 : Int))).setCell ⟨w.heap.size, 2, none⟩ (.int .u64 (x.a2 : Int))).setCell ⟨w.heap.size, 3, none⟩ (.int .u64 (x.a3 : Int))).setCell ⟨w.heap.size, 4, none⟩ (.int .i64 1)).ownsRow (w.heap.size + 1) 45 5 (.slice A1 k c1) k (([] : List (W4 × Nat)).flatMap cellsC) ∧ Cells (((((w1.setCell ⟨w.heap.size, 0, none⟩ (.int .u64 (x.a0 : Int))).setCell ⟨w.heap.size, 1, none⟩ (.int .u64 (x.a1 : Int))).setCell ⟨w.heap.size, 2, none⟩ (.int .u64 (x.a2 : Int))).setCell ⟨w.heap.size, 3, none⟩ (.int .u64 (x.a3 : Int))).setCell ⟨w.heap.size, 4, none⟩ (.int .i64 1)) w.heap.size (cellsC (x, 1)) ∧ ([] : List (W4 × Nat)).length = k ∧ Below w.heap.size w (((((w1.setCell ⟨w.heap.size, 0, none⟩ (.int .u64 (x.a0 : Int))).setCell ⟨w.heap.size, 1, none⟩ (.int .u64 (x.a1 : Int))).setCell ⟨w.heap.size, 2, none⟩ (.int .u64 (x.a2 : Int))).setCell ⟨w.heap.size, 3, none⟩ (.int .u64 (x.a3 : Int))).setCell ⟨w.heap.size, 4, none⟩ (.int .i64 1))) := Lib.hid ⟨CntW.set (CntW.set (CntW.set (CntW.set (CntW.set C1.out.own 0 _) 1 _) 2 _) 3 _) 4 _, ((((C1.out.lc.put 0 (by simp [cellsC]) (.int .u64 (x.a0 : Int))).put 1 (by simp [cellsC]) (.int .u64 (x.a1 : Int))).put 2 (by simp [cellsC]) (.int .u64 (x.a2 : Int))).put 3 (by simp [cellsC]) (.int .u64 (x.a3 : Int))).put 4 (by simp [cellsC]) (.int .i64 1), C1.out.len, C1.out.bw.trans ((((((kp_set w1 w.heap.size 0 _).trans (kp_set _ _ 1 _)).trans (kp_set _ _ 2 _)).trans (kp_set _ _ 3 _)).trans (kp_set _ _ 4 _)).below C1.out.bw.size fun j hj => by omega)⟩
        go_upto_region 10 with fail
        obtain ⟨w5, hw5⟩ : ∃ W, (((((w1.setCell ⟨w.heap.size, 0, none⟩ (.int .u64 (x.a0 : Int))).setCell ⟨w.heap.size, 1, none⟩ (.int .u64 (x.a1 : Int))).setCell ⟨w.heap.size, 2, none⟩ (.int .u64 (x.a2 : Int))).setCell ⟨w.heap.size, 3, none⟩ (.int .u64 (x.a3 : Int))).setCell ⟨w.heap.size, 4, none⟩ (.int .i64 1)) = W := ⟨_, rfl⟩
        rw [hw5] at F5 ⊢
        have g0 : w5.cell? ⟨w.heap.size, 0, none⟩ = some (.int .u64 (x.a0 : Int)) := F5.out.2.1.at_ 0 _ rfl
        have g1 : w5.cell? ⟨w.heap.size, 1, none⟩ = some (.int .u64 (x.a1 : Int)) := F5.out.2.1.at_ 1 _ rfl
        have g2 : w5.cell? ⟨w.heap.size, 2, none⟩ = some (.int .u64 (x.a2 : Int)) := F5.out.2.1.at_ 2 _ rfl
        have g3 : w5.cell? ⟨w.heap.size, 3, none⟩ = some (.int .u64 (x.a3 : Int)) := F5.out.2.1.at_ 3 _ rfl
        have g4 : w5.cell? ⟨w.heap.size, 4, none⟩ = some (.int .i64 1) := F5.out.2.1.at_ 4 _ rfl
        have hsrc : Hid (SrcCells (w5.alloc (.cells #[.int .u64 (x.a0 : Int), .int .u64 (x.a1 : Int), .int .u64 (x.a2 : Int), .int .u64 (x.a3 : Int), .int .i64 1] 45)) (some ⟨w5.heap.size, 0, none⟩) 1 5 [.int .u64 (x.a0 : Int), .int .u64 (x.a1 : Int), .int .u64 (x.a2 : Int), .int .u64 (x.a3 : Int), .int .i64 1]) := Lib.hid (cnt_src _ x 1)
        have hzb : Hid (w.heap.size + 1 ≤ (w5.alloc (.cells #[.int .u64 (x.a0 : Int), .int .u64 (x.a1 : Int), .int .u64 (x.a2 : Int), .int .u64 (x.a3 : Int), .int .i64 1] 45)).heap.size) := Lib.hid (by have := F5.out.2.1.lt; simp; omega)
        clear C1 HX hw5 l0 l1 l2 l3 l4 f0 f1 f2 f3 f4 z0 z1 z2 z3 q0 q1 q2 q3 hw1 heq
        go_wp2_with (first
          | (at_builtin; go_must (refine wpList_append_src _ rfl _ _ 42 rfl (w.heap.size + 1) 45 i0 (.agg #[.int .u64 0, .int .u64 0, .int .u64 0, .int .u64 0, .int .i64 0]) 5 40 Tryd.underlying42 hi hz0 hz1 hz2 rfl (by decide) _ _ _ rfl (F5.out.1.alloc _) (some ⟨w5.heap.size, 0, none⟩) 1 1 [.int .u64 (x.a0 : Int), .int .u64 (x.a1 : Int), .int .u64 (x.a2 : Int), .int .u64 (x.a3 : Int), .int .i64 1] rfl hsrc.out (cnt_one x 1) (by unfold maxLen; omega) (by omega) hzb.out ?_)
             go_loud (
               intro v' w3 hown' hgrow3 hat3
               have X : Hid (∃ A' c', v' = .slice A' (k + 1) c' ∧ CntW w A' (k + 1) c' (([] : List (W4 × Nat)) ++ [(x, 1)]) x 1 w3) := Lib.hid (by
                 obtain ⟨A', c', rfl, _⟩ := own_form hown'
                 refine ⟨A', c', rfl, ?_⟩
                 have hgk : Kp (fun j => (Value.slice A1 k c1).ownBlock = some j) w5 w3 := ((Kp.refl _ w5).alloc _).ofGrown hgrow3 fun j hj _ => hj
                 have hlt : ∀ j, (Value.slice A1 k c1).ownBlock = some j → w.heap.size + 1 ≤ j := fun j hj => (F5.out.1.lt _ hj).1
                 refine ⟨by rw [List.length_append, F5.out.2.2.1]; rfl, by rw [List.flatMap_append]; simpa [cellsC] using hown', ?_, .inr ⟨_, rfl, by omega⟩, F5.out.2.2.2.trans (hgk.below F5.out.2.2.2.size fun j hj => by have := hlt j hj; omega)⟩
                 exact F5.out.2.1.kp hgk fun hj => by have h1 := hlt _ hj; have h2 : w.heap.size + 1 ≤ w.heap.size := h1; omega)
               obtain ⟨A', c', rfl, X1⟩ := X.out
               have XR := Lib.hid X1
               clear X X1 hown' hgrow3 hat3)))
        go_roundw
        case rel => exact ⟨q + 1, A', k + 1, c', 1, x, rfl, by go_num, by omega, by omega, by omega, Lib.hid (by rw [HX2.out]; exact XR.out)⟩
        case measure => simp [intOf]; omega
    · obtain rfl : q = n := by omega
      go_wp2_with fail
      go_ret
      refine ⟨A1, k, c1, rfl, ?_, hkq, ?_, HC.out.bw⟩
      · have := HC.out.len
        rw [List.take_of_length_le (by have := HLN.out; omega)] at this
        exact this
      · have := HC.out.own.mono (Nat.le_succ _)
        rw [List.take_of_length_le (by have := HLN.out; omega)] at this
        exact this
end Go.Proofs.YtgjmmbhakjalgaaDoor
