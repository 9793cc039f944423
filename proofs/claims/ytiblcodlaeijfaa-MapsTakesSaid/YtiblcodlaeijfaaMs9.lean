/-
  Tables of sets: the table that bytes begin with, by the program.
-/
import Derived.Test.YtiblcodlaeijfaaMs8
namespace Go.Proofs.Ytiblcodlaeijfaa
open Go.RowKit
set_option linter.unusedSimpArgs false
set_option linter.unusedVariables false
def IsTab (g : Nat) (R : List W4 × List Nat × Nat) (w : World) (e' : Ending) (w' : World) : Prop :=
  ∃ A k c, e' = .returned (.slice A k c) ∧ R.1.length = k ∧ w'.ownsRow (w.heap.size + 1) 41 4 (.slice A k c) k (R.1.flatMap cellsW) ∧ CurW w' g R.2.1 R.2.2 ∧ Kp (fun j => j = g) w w'
theorem own_nilW (w : World) (b : Nat) : w.ownsRow b 41 4 (.slice none 0 0) 0 (([] : List W4).flatMap cellsW) := World.ownsRow_nil _ _ _ _
abbrev cntL (s : W4) (m : Int) : List Value := [.int .u64 (s.a0 : Int), .int .u64 (s.a1 : Int), .int .u64 (s.a2 : Int), .int .u64 (s.a3 : Int), .int .i64 m]
theorem OutW.last {w : World} {g : Nat} {A : Option Addr} {k c : Nat} {xs : List W4} {l : List Nat} {e : Nat} {t s : W4} {m u : Int} {W : World} (h : OutW w g A k c xs l e (cntL t m) W) :
    OutW w g A k c xs l e (cntL s u) (((((W.setCell ⟨w.heap.size, 0, none⟩ (.int .u64 (s.a0 : Int))).setCell ⟨w.heap.size, 1, none⟩ (.int .u64 (s.a1 : Int))).setCell ⟨w.heap.size, 2, none⟩ (.int .u64 (s.a2 : Int))).setCell ⟨w.heap.size, 3, none⟩ (.int .u64 (s.a3 : Int))).setCell ⟨w.heap.size, 4, none⟩ (.int .i64 u)) :=
  ((((h.put 0 (by simp) _).put 1 (by simp) _).put 2 (by simp) _).put 3 (by simp) _).put 4 (by simp) _
set_option maxRecDepth 100000 in
set_option maxHeartbeats 4000000 in
theorem mTake_nat (g N : Nat) (l : List Nat) (many : Int) (w : World) (h : CurW w g l 0) (hN : N ≤ 200) : Calls Try.prog 8 #[.pointer (some ⟨g, 0, none⟩), .int .i64 (N : Int), .int .i64 many] w (IsTab g (tabM N many N [] l) w) := by
  obtain ⟨i0, hi, hz0, hz1, hz2⟩ := info_parts info_set
  obtain ⟨R, hR⟩ : ∃ R, tabM N many N [] l = R := ⟨_, rfl⟩
  rw [hR]
  have HR0 : Hid (TabR N many [] l R) := Lib.hid ⟨N, by simp, hR⟩
  have hgl : g < w.heap.size := World.block_lt_of_cell? _ _ h.c1
  have HO : Hid (OutW w g none 0 0 [] l 0 (cntL zW 0) (w.alloc (.cells #[.int .u64 0, .int .u64 0, .int .u64 0, .int .u64 0, .int .i64 0] 55))) := by
    refine Lib.hid ⟨rfl, own_nilW _ _, h.on ((Kp.refl (fun _ => False) _).alloc _), (Kp.refl _ _).alloc _, fun q v hq => ?_, fun q hq => ?_, by simp, hgl⟩
    · exact (new_cells (w := w) (cs := #[.int .u64 0, .int .u64 0, .int .u64 0, .int .u64 0, .int .i64 0]) (Below.refl _ _) q v ((List.getElem?_toArray).trans hq)).1
    · have hq' : q < 5 := hq
      exact (new_cells (w := w) (cs := #[.int .u64 0, .int .u64 0, .int .u64 0, .int .u64 0, .int .i64 0]) (Below.refl _ _) q _ (Array.getElem?_eq_getElem (by simpa using hq'))).2
  clear hR h
  go_enter Try.func8, Try.ntmps8
  go_wp2_with fail
  go_loopw [7] (fun o wr => ∃ (xs : List W4) (l' : List Nat) (t : W4) (m : Int) (A : Option Addr) (k c : Nat), o = .slice A k c ∧ k ≤ N ∧ Hid (OutW w g A k c xs l' 0 (cntL t m) wr) ∧ Hid (TabR N many xs l' R) ∧ Hid ((fun s => decide (0 < m) && eqW t s) = lkO xs)) (fun o _ => N - (match o with | .slice _ k _ => k | _ => 0))
  case atStart => exact ⟨[], l, zW, 0, none, 0, 0, rfl, Nat.zero_le _, HO, HR0, Lib.hid (by funext s; rfl)⟩
  case round =>
    obtain ⟨xs, l', t, m, A, k, c, rfl, hk, HW, HR, HL⟩ := hrel
    have hlen := HW.out.len
    by_cases hlt : k < N
    · have hkN : (k : Int) < (N : Int) := by omega
      have hwr : IntKind.i64.wrap ((N : Int) - (k : Int)) = ((N - k : Nat) : Int) := by rw [IntKind.wrap_i64]; omega
      have ct := take_any g 0 (N - k) l' many t m wr HW.out.cur (by omega)
      unfold TakeP at ct
      rw [HL.out] at ct
      obtain ⟨r, hr⟩ : ∃ r, takeM l' 0 (N - k) many (lkO xs) = r := ⟨_, rfl⟩
      rw [hr] at ct
      obtain ⟨u, s, lr, er⟩ := r
      dsimp only at ct
      have CT := Lib.hid ct
      have HX : Hid (takeM l' 0 (N - xs.length) many (lkO xs) = ⟨u, s, lr, er⟩) := Lib.hid (by rw [hlen]; exact hr)
      have hxl : xs.length < N := by omega
      have t0 : wr.cell? ⟨w.heap.size, 0, none⟩ = some (.int .u64 (t.a0 : Int)) := HW.out.tc 0 _ rfl
      have t1 : wr.cell? ⟨w.heap.size, 1, none⟩ = some (.int .u64 (t.a1 : Int)) := HW.out.tc 1 _ rfl
      have t2 : wr.cell? ⟨w.heap.size, 2, none⟩ = some (.int .u64 (t.a2 : Int)) := HW.out.tc 2 _ rfl
      have t3 : wr.cell? ⟨w.heap.size, 3, none⟩ = some (.int .u64 (t.a3 : Int)) := HW.out.tc 3 _ rfl
      have t4 : wr.cell? ⟨w.heap.size, 4, none⟩ = some (.int .i64 m) := HW.out.tc 4 _ rfl
      clear ct hr hlen
      go_wp2_with fail
      refine CT.out.mono ?_
      rintro e' w2 ⟨rfl, hc2, hk2⟩
      have HW2 := Lib.hid (HW.out.call hc2 hk2)
      clear hc2 hk2 t0 t1 t2 t3 t4
      have t0 : w2.cell? ⟨w.heap.size, 0, none⟩ = some (.int .u64 (t.a0 : Int)) := HW2.out.tc 0 _ rfl
      have t1 : w2.cell? ⟨w.heap.size, 1, none⟩ = some (.int .u64 (t.a1 : Int)) := HW2.out.tc 1 _ rfl
      have t2 : w2.cell? ⟨w.heap.size, 2, none⟩ = some (.int .u64 (t.a2 : Int)) := HW2.out.tc 2 _ rfl
      have t3 : w2.cell? ⟨w.heap.size, 3, none⟩ = some (.int .u64 (t.a3 : Int)) := HW2.out.tc 3 _ rfl
      have t4 : w2.cell? ⟨w.heap.size, 4, none⟩ = some (.int .i64 m) := HW2.out.tc 4 _ rfl
      have f0 := HW2.out.tf 0 (by simp)
      have f1 := HW2.out.tf 1 (by simp)
      have f2 := HW2.out.tf 2 (by simp)
      have f3 := HW2.out.tf 3 (by simp)
      have f4 := HW2.out.tf 4 (by simp)
      have HW3 := Lib.hid (HW2.out.last (s := s) (u := wrap64 (u : Int)))
      clear CT HW2 HW
      go_wp2_with fail
      obtain ⟨w3, hwE⟩ : ∃ W, (((((w2.setCell ⟨w.heap.size, 0, none⟩ (.int .u64 (s.a0 : Int))).setCell ⟨w.heap.size, 1, none⟩ (.int .u64 (s.a1 : Int))).setCell ⟨w.heap.size, 2, none⟩ (.int .u64 (s.a2 : Int))).setCell ⟨w.heap.size, 3, none⟩ (.int .u64 (s.a3 : Int))).setCell ⟨w.heap.size, 4, none⟩ (.int .i64 (wrap64 (u : Int)))) = W := ⟨_, rfl⟩
      rw [hwE] at HW3
      rw [hwE]
      clear hwE t0 t1 t2 t3 t4 f0 f1 f2 f3 f4
      have cE := Lib.hid (cur_err g _ _ w3 HW3.out.cur)
      refine cE.out.mono ?_
      rintro e' w' ⟨rfl, rfl⟩
      clear cE
      by_cases he : er = 0
      · subst he
        have hu : 0 < u ∧ u ≤ N - xs.length := by
          have := takeM_ok (l := l') (e := 0) (left := N - xs.length) (n := many) (lk := lkO xs)
          rw [HX.out] at this
          exact this rfl
        have hlen := HW3.out.len
        rw [hlen] at hu
        have huN : k + u ≤ N := by omega
        have HN := Lib.hid (HR.out.next hxl HX.out rfl)
        have HW4 : Hid (OutW w g A k c xs lr 0 (cntL s (u : Int)) w3) := Lib.hid (by have := HW3.out; rw [show wrap64 (u : Int) = u by unfold wrap64; omega] at this; exact this)
        have hu0 : (0 : Int) < (u : Int) := by omega
        have HLL : Hid ((fun x => decide (0 < (u : Int)) && eqW s x) = lkO (xs ++ List.replicate u s)) := Lib.hid (by funext x; rw [lkO_rep _ _ _ hu.1, decide_eq_true hu0]; rfl)
        have t4 : w3.cell? ⟨w.heap.size, 4, none⟩ = some (.int .i64 (u : Int)) := HW4.out.tc 4 _ rfl
        clear HW3 HX HR hlen
        go_wp2_with fail
        clear t4
        go_loopw [7, 26] (fun o j wr => ∃ (q : Nat) (A2 : Option Addr) (c2 : Nat), o = .slice A2 (k + q) c2 ∧ j = .int .i64 q ∧ q ≤ u ∧ Hid (OutW w g A2 (k + q) c2 (xs ++ List.replicate q s) lr 0 (cntL s (u : Int)) wr)) (fun _ j _ => u - (intOf j).toNat)
        case atStart => exact ⟨0, A, c, rfl, rfl, Nat.zero_le _, Lib.hid (by rw [List.replicate_zero, List.append_nil]; exact HW4.out)⟩
        case round =>
          obtain ⟨q, A2, c2, rfl, rfl, hq, HQ⟩ := hrel
          by_cases hqt : q < u
          · have hqT : (q : Int) < (u : Int) := by omega
            have hq0 : (0 : Int) ≤ (q : Int) := by omega
            have t0 : wr.cell? ⟨w.heap.size, 0, none⟩ = some (.int .u64 (s.a0 : Int)) := HQ.out.tc 0 _ rfl
            have t1 : wr.cell? ⟨w.heap.size, 1, none⟩ = some (.int .u64 (s.a1 : Int)) := HQ.out.tc 1 _ rfl
            have t2 : wr.cell? ⟨w.heap.size, 2, none⟩ = some (.int .u64 (s.a2 : Int)) := HQ.out.tc 2 _ rfl
            have t3 : wr.cell? ⟨w.heap.size, 3, none⟩ = some (.int .u64 (s.a3 : Int)) := HQ.out.tc 3 _ rfl
            have hsrc := Lib.hid (set_src wr s)
            have hone := Lib.hid (set_one s)
            have hzb : w.heap.size + 1 ≤ (wr.alloc (.cells #[.int .u64 (s.a0 : Int), .int .u64 (s.a1 : Int), .int .u64 (s.a2 : Int), .int .u64 (s.a3 : Int)] 41)).heap.size := by have := HQ.out.sz; simp; omega
            have hown := Lib.hid (HQ.out.own.alloc (.cells #[.int .u64 (s.a0 : Int), .int .u64 (s.a1 : Int), .int .u64 (s.a2 : Int), .int .u64 (s.a3 : Int)] 41))
            have hrep : Hid (xs ++ List.replicate q s ++ [s] = xs ++ List.replicate (q + 1) s) := Lib.hid (by rw [List.append_assoc, List.replicate_succ'])
            have hkq : k + q ≤ 200 := by omega
            generalize xs ++ List.replicate q s = out at *
            obtain ⟨kq, hkE⟩ : ∃ kq, k + q = kq := ⟨_, rfl⟩
            rw [hkE] at HQ hown hkq ⊢
            have HKE := Lib.hid hkE
            clear hkE
            go_wp2_with (first
              | (at_builtin; go_must (refine wpList_append_src _ rfl _ _ 26 rfl (w.heap.size + 1) 41 i0 (.agg #[.int .u64 0, .int .u64 0, .int .u64 0, .int .u64 0]) 4 32 Try.underlying26 hi hz0 hz1 hz2 rfl (by decide) _ _ _ rfl hown.out (some ⟨wr.heap.size, 0, none⟩) 1 1 (cellsW s) rfl hsrc.out hone.out (by unfold maxLen; omega) (by omega) hzb ?_)
                 intro v' w3 hown' hgrow3 hat3
                 obtain ⟨A', c', rfl, o3⟩ := HQ.out.snoc s hown' hgrow3
                 have O3 := Lib.hid o3
                 clear hown' hgrow3 hat3 o3))
            go_roundw
            case rel => exact ⟨q + 1, A', c', by rw [← HKE.out]; rfl, by go_num, by omega, Lib.hid (by rw [← hrep.out, ← Nat.add_assoc, HKE.out]; exact O3.out)⟩
            case measure => simp [intOf]; omega
          · have hqT : q = u := by omega
            subst hqT
            go_wp2_with fail
            go_roundw
            case rel => exact ⟨xs ++ List.replicate q s, lr, s, (q : Int), A2, k + q, c2, rfl, huN, HQ, HN, HLL⟩
            case measure => simp; omega
      · have q1 : ((er : Int) != 0) = true := by simp [he]
        have hRb := HR.out.bad hxl HX.out he
        subst hRb
        clear HX HR HL
        go_wp2_with fail
        go_ret
        exact ⟨none, 0, 0, rfl, rfl, own_nilW _ _, HW3.out.cur, HW3.out.kp⟩
    · obtain rfl : k = N := by omega
      have hRb := HR.out.done (by rw [hlen]; exact hlt)
      subst hRb
      have cE := Lib.hid (cur_err g _ _ wr HW.out.cur)
      clear HR HL
      go_wp2_with fail
      refine cE.out.mono ?_
      rintro e' w' ⟨rfl, rfl⟩
      go_wp2_with fail
      go_ret
      exact ⟨A, k, c, rfl, hlen, HW.out.own, HW.out.cur, HW.out.kp⟩
set_option maxRecDepth 100000 in
set_option maxHeartbeats 4000000 in
theorem mTake_neg (g : Nat) (n : Int) (l : List Nat) (many : Int) (w : World) (h : CurW w g l 0) (hn : n < 0) : Calls Try.prog 8 #[.pointer (some ⟨g, 0, none⟩), .int .i64 n, .int .i64 many] w (IsTab g ([], l, 0) w) := by
  have hc := h.on ((Kp.refl (fun _ => False) w).alloc (.cells #[.int .u64 0, .int .u64 0, .int .u64 0, .int .u64 0, .int .i64 0] 55))
  have cE := Lib.hid (cur_err g _ _ _ hc)
  have HC := Lib.hid hc
  have hnn : ¬ (0 : Int) < n := by omega
  clear h hc
  go_enter Try.func8, Try.ntmps8
  go_wp2_with fail
  refine wp_loop_rounds 1 ?_
  rw [rounds_succ]
  go_wp2_with fail
  refine cE.out.mono ?_
  rintro e' w' ⟨rfl, rfl⟩
  go_wp2_with fail
  go_ret
  exact ⟨none, 0, 0, rfl, rfl, own_nilW _ _, HC.out, (Kp.refl _ _).alloc _⟩
theorem tabM_zero (many : Int) (l : List Nat) : tabM 0 many 0 [] l = ([], l, 0) := rfl
theorem mTake_any (g : Nat) (n : Int) (l : List Nat) (many : Int) (w : World) (h : CurW w g l 0) (hn : n ≤ 200) : Calls Try.prog 8 #[.pointer (some ⟨g, 0, none⟩), .int .i64 n, .int .i64 many] w (IsTab g (tabM n.toNat many n.toNat [] l) w) := by
  by_cases h0 : n < 0
  · have e : n.toNat = 0 := by omega
    rw [e, tabM_zero]
    exact mTake_neg g n l many w h h0
  · obtain ⟨N, rfl⟩ : ∃ N : Nat, n = (N : Int) := ⟨n.toNat, by omega⟩
    rw [Int.toNat_natCast]
    exact mTake_nat g N l many w h (by omega)
end Go.Proofs.Ytiblcodlaeijfaa
