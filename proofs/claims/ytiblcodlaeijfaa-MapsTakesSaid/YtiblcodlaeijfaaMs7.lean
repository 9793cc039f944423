/-
  Tables of sets: a run taken from the bytes, by the program.
-/
import Derived.Test.YtiblcodlaeijfaaMs6
import Derived.Test.YtiblcodlaeijfaaMt4
import Derived.Deep.RegionHeld
namespace Go.Proofs.Ytiblcodlaeijfaa
open Go.RowKit
set_option linter.unusedSimpArgs false
set_option linter.unusedVariables false
structure TR where
  u : Nat
  s : W4
  l : List Nat
  e : Nat
/-- The first failure of a run: none of so many, or too many. -/
def manyM (u : Nat) (e left : Nat) : Nat := if e = 0 ∧ (u = 0 ∨ left < u) then 5 else e
/-- A run taken: how often, the set, what is left, the error. -/
def takeM (l : List Nat) (e left : Nat) (n : Int) (lk : W4 → Bool) : TR :=
  let a := bitsM l e
  let b0 := bitsM a.2.1 (manyM a.1 a.2.2 left)
  let b1 := bitsM b0.2.1 b0.2.2
  let b2 := bitsM b1.2.1 b1.2.2
  let b3 := bitsM b2.2.1 b2.2.2
  let s : W4 := ⟨b0.1, b1.1, b2.1, b3.1⟩
  let e6 := if lk s = true then failM b3.2.2 5 else b3.2.2
  let e7 := if insW s (rangeM 0 n) = true then e6 else failM e6 14
  ⟨a.1, s, b3.2.1, e7⟩
/-- What stands while a run is taken: the cursor, the last run, the result (nothing), the set so far. -/
structure TkS (w0 : World) (g d b : Nat) (t : W4) (m : Int) (W : World) (l : List Nat) (e : Nat) (s : W4) : Prop where
  cur : CurW W g l e
  tc : ∀ q, q < 4 → W.cell? ⟨d, q, none⟩ = some (.int .u64 (t.get q : Int))
  tm : W.cell? ⟨d, 4, none⟩ = some (.int .i64 m)
  rc : ∀ q, q < 4 → W.cell? ⟨d + 1, q, none⟩ = some (.int .u64 0)
  rm : W.cell? ⟨d + 1, 4, none⟩ = some (.int .i64 0)
  rf : ∀ q, q < 5 → W.frozen? ⟨d + 1, q, none⟩ = false
  ac : ∀ q, q < 4 → W.cell? ⟨b, q, none⟩ = some (.int .u64 (s.get q : Int))
  af : ∀ q, q < 4 → W.frozen? ⟨b, q, none⟩ = false
  hd : g < d
  hb : d + 1 < b
  hw : w0.heap.size ≤ d
  kp : Kp (fun j => j = g) w0 W
theorem TkS.call {w0 : World} {g d b : Nat} {t : W4} {m : Int} {W W' : World} {l l' : List Nat} {e e' : Nat} {s : W4} (h : TkS w0 g d b t m W l e s) (hc : CurW W' g l' e') (hk : Kp (fun j => j = g) W W') : TkS w0 g d b t m W' l' e' s := by
  have h1 := h.hd
  have h2 := h.hb
  have hl : d + 1 < W.heap.size := World.block_lt_of_cell? _ _ h.rm
  have hl2 : b < W.heap.size := World.block_lt_of_cell? _ _ (h.ac 0 (by omega))
  exact ⟨hc, fun q hq => hk.cellv (h.tc q hq) (by show ¬ d = g; omega), hk.cellv h.tm (by show ¬ d = g; omega), fun q hq => hk.cellv (h.rc q hq) (by show ¬ d + 1 = g; omega), hk.cellv h.rm (by show ¬ d + 1 = g; omega), fun q hq => (hk.frozen (p := ⟨d + 1, q, none⟩) hl (by show ¬ d + 1 = g; omega)).trans (h.rf q hq), fun q hq => hk.cellv (h.ac q hq) (by show ¬ b = g; omega), fun q hq => (hk.frozen (p := ⟨b, q, none⟩) hl2 (by show ¬ b = g; omega)).trans (h.af q hq), h1, h2, h.hw, h.kp.trans hk⟩
theorem TkS.on {w0 : World} {g d b : Nat} {t : W4} {m : Int} {W W' : World} {l : List Nat} {e : Nat} {s : W4} (h : TkS w0 g d b t m W l e s) (hb : Below W.heap.size W W') : TkS w0 g d b t m W' l e s := by
  have hk : Kp (fun _ => False) W W' := (Kp.refl _ _).ofBelow hb
  exact h.call (h.cur.on hk) (hk.mono fun _ _ h => h.elim)
theorem TkS.put {w0 : World} {g d b : Nat} {t : W4} {m : Int} {W : World} {l : List Nat} {e : Nat} {s : W4} (h : TkS w0 g d b t m W l e s) (k : Nat) (hk : k < 4) (v : Nat) : TkS w0 g d b t m (W.setCell ⟨b, k, none⟩ (.int .u64 (v : Int))) l e (s.put k v) := by
  have h1 := h.hd
  have h2 := h.hb
  have far : ∀ p : Addr, p.block ≠ b → (W.setCell ⟨b, k, none⟩ (.int .u64 (v : Int))).cell? p = W.cell? p := fun p hp => World.cell?_setCell_far _ _ _ _ (Ne.symm hp)
  refine ⟨h.cur.set ⟨b, k, none⟩ (by show g < b; omega) _, fun q hq => (far _ (by show d ≠ b; omega)).trans (h.tc q hq), (far _ (by show d ≠ b; omega)).trans h.tm, fun q hq => (far _ (by show d + 1 ≠ b; omega)).trans (h.rc q hq), (far _ (by show d + 1 ≠ b; omega)).trans h.rm, fun q hq => (World.frozen?_setCell _ _ _ _).trans (h.rf q hq), fun q hq => ?_, fun q hq => (World.frozen?_setCell _ _ _ _).trans (h.af q hq), h1, h2, h.hw, Kp.setCell h.kp (fun hl => by have := h.hw; have hl' : b < w0.heap.size := hl; omega) _⟩
  rw [W4.get_put hk q hq]
  by_cases e : q = k
  · subst e
    rw [if_pos rfl]
    exact World.cell?_setCell_same' _ _ _ (by rw [h.ac q hq]; rfl)
  · rw [if_neg e, World.cell?_setCell_other _ _ _ _ (by simp; try omega)]
    exact h.ac q hq
theorem bitsM_lt {l : List Nat} {e : Nat} (h : ∀ b ∈ l, b < 256) : (bitsM l e).1 < 18446744073709551616 := by
  unfold bitsM
  split
  · split
    · exact getM_lt h
    · exact (by decide : 0 < 18446744073709551616)
  · exact (by decide : 0 < 18446744073709551616)
theorem CurW.bytes {w : World} {g e : Nat} {l : List Nat} (h : CurW w g l e) : ∀ b ∈ l, b < 256 := by
  obtain ⟨A, n, c, _, h1, _⟩ := h.ex
  exact h1.2
def TakeP (g e left : Nat) (l : List Nat) (n : Int) (t : W4) (m : Int) (w : World) : Prop :=
  Calls Try.prog 20 #[.pointer (some ⟨g, 0, none⟩), .int .i64 (left : Int), .int .i64 n, cntW t m] w fun e' w' =>
    e' = .returned (cntW (takeM l e left n fun s => decide (0 < m) && eqW t s).s (wrap64 ((takeM l e left n fun s => decide (0 < m) && eqW t s).u : Int))) ∧ CurW w' g (takeM l e left n fun s => decide (0 < m) && eqW t s).l (takeM l e left n fun s => decide (0 < m) && eqW t s).e ∧ Kp (fun j => j = g) w w' 
set_option maxRecDepth 100000 in
set_option maxHeartbeats 8000000 in
theorem take_A (g e left : Nat) (l : List Nat) (n : Int) (t : W4) (m : Int) (w : World) (h : CurW w g l e) (hl : left ≤ 200) (u e1 : Nat) (l1 : List Nat) (ha : bitsM l e = (u, l1, e1)) (he : ¬ e1 = 0) : TakeP g e left l n t m w := by
  have hbl := h.bytes
  have hu64 : u < 18446744073709551616 := by have := bitsM_lt (e := e) hbl; rw [ha] at this; exact this
  obtain ⟨⟨x0, l2, e2⟩, hb0⟩ : ∃ r, bitsM l1 (manyM u e1 left) = r := ⟨_, rfl⟩
  obtain ⟨⟨x1, l3, e3⟩, hb1⟩ : ∃ r, bitsM l2 e2 = r := ⟨_, rfl⟩
  obtain ⟨⟨x2, l4, e4⟩, hb2⟩ : ∃ r, bitsM l3 e3 = r := ⟨_, rfl⟩
  obtain ⟨⟨x3, l5, e5⟩, hb3⟩ : ∃ r, bitsM l4 e4 = r := ⟨_, rfl⟩
  have hT : takeM l e left n (fun s => decide (0 < m) && eqW t s) = ⟨u, ⟨x0, x1, x2, x3⟩, l5, if insW ⟨x0, x1, x2, x3⟩ (rangeM 0 n) = true then (if (decide (0 < m) && eqW t ⟨x0, x1, x2, x3⟩) = true then failM e5 5 else e5) else failM (if (decide (0 < m) && eqW t ⟨x0, x1, x2, x3⟩) = true then failM e5 5 else e5) 14⟩ := by
    unfold takeM
    simp only [ha, hb0, hb1, hb2, hb3]
  unfold TakeP
  rw [hT]
  have ck := Lib.hid (fun w => like_any t m ⟨x0, x1, x2, x3⟩ w)
  have cb := Lib.hid (fun w => below_any ⟨x0, x1, x2, x3⟩ n w)
  generalize (decide (0 < m) && eqW t ⟨x0, x1, x2, x3⟩) = v2 at *
  generalize insW ⟨x0, x1, x2, x3⟩ (rangeM 0 n) = v3 at *
  have hgl : g < w.heap.size := World.block_lt_of_cell? _ _ h.c1
  obtain ⟨w1, hw1⟩ : ∃ w1, (w.alloc (.cells #[.int .u64 (t.a0 : Int), .int .u64 (t.a1 : Int), .int .u64 (t.a2 : Int), .int .u64 (t.a3 : Int), .int .i64 m] 55)).alloc (.cells #[.int .u64 0, .int .u64 0, .int .u64 0, .int .u64 0, .int .i64 0] 55) = w1 := ⟨_, rfl⟩
  have hk1 : Kp (fun _ => False) w w1 := by rw [← hw1]; exact ((Kp.refl _ _).alloc _).alloc _
  have hs1 : w1.heap.size = w.heap.size + 1 + 1 := by rw [← hw1]; simp
  have z1 : ∀ j v, #[Value.int .u64 (t.a0 : Int), .int .u64 (t.a1 : Int), .int .u64 (t.a2 : Int), .int .u64 (t.a3 : Int), .int .i64 m][j]? = some v → w1.cell? ⟨w.heap.size, j, none⟩ = some v := fun j v hv => by
    rw [← hw1]
    exact (new_cells (w := w) ((Below.refl _ _).alloc (Nat.le_refl _) _) j v hv).1
  have z2 : ∀ j v, #[Value.int .u64 0, .int .u64 0, .int .u64 0, .int .u64 0, .int .i64 0][j]? = some v → w1.cell? ⟨w.heap.size + 1, j, none⟩ = some v ∧ w1.frozen? ⟨w.heap.size + 1, j, none⟩ = false := fun j v hv => by
    rw [← hw1]
    have := new_cells (w := w.alloc (.cells #[.int .u64 (t.a0 : Int), .int .u64 (t.a1 : Int), .int .u64 (t.a2 : Int), .int .u64 (t.a3 : Int), .int .i64 m] 55)) (cs := #[Value.int .u64 0, .int .u64 0, .int .u64 0, .int .u64 0, .int .i64 0]) (t := 55) (Below.refl _ _) j v hv
    simpa using this
  have hc1 := h.on hk1
  have ca := Lib.hid (cur_bits g e l w1 hc1)
  rw [ha] at ca
  have HE := Lib.hid hw1
  have HK1 := Lib.hid hk1
  have q1 : ((e1 : Int) == 0) = false := by simp [he]
  have q1' : ¬ (e1 : Int) = 0 := by omega
  go_enter Try.func20, Try.ntmps20
  go_wp2_with fail
  refine ca.out.mono ?_
  rintro e' w2 ⟨rfl, hc2, hk2⟩
  have cE := Lib.hid (cur_err g _ _ w2 hc2)
  go_wp2_with fail
  refine cE.out.mono ?_
  rintro e' w' ⟨rfl, rfl⟩
  go_wp2_with fail
  have hk := (HK1.out.mono fun _ _ h => h.elim).trans hk2
  have hmany : manyM u e1 left = e1 := by simp [manyM, he]
  rw [hmany] at hb0
  have hkk : Kp (fun j => j = g) w1 w2 := hk2
  have hsz : w.heap.size + 1 + 1 ≤ w2.heap.size := by have := hk2.size; omega
  have TT : TkS w g w.heap.size w2.heap.size t m (w2.alloc (.cells #[.int .u64 0, .int .u64 0, .int .u64 0, .int .u64 0] 41)) l1 e1 zW := by
    refine ⟨hc2.on ((Kp.refl (fun _ => False) _).alloc _), fun q hq => ?_, ?_, fun q hq => ?_, ?_, fun q hq => ?_, fun q hq => ?_, fun q hq => ?_, by omega, by omega, Nat.le_refl _, hk.alloc _⟩
    · rw [World.cell?_alloc_lt _ _ _ (by show w.heap.size < _; omega)]
      refine hkk.cellv (z1 q _ ?_) (by show ¬ w.heap.size = g; omega)
      match q, hq with
      | 0, _ => rfl
      | 1, _ => rfl
      | 2, _ => rfl
      | 3, _ => rfl
    · rw [World.cell?_alloc_lt _ _ _ (by show w.heap.size < _; omega)]
      exact hkk.cellv (z1 4 _ rfl) (by show ¬ w.heap.size = g; omega)
    · rw [World.cell?_alloc_lt _ _ _ (by show w.heap.size + 1 < _; omega)]
      refine hkk.cellv (z2 q _ ?_).1 (by show ¬ w.heap.size + 1 = g; omega)
      match q, hq with
      | 0, _ => rfl
      | 1, _ => rfl
      | 2, _ => rfl
      | 3, _ => rfl
    · rw [World.cell?_alloc_lt _ _ _ (by show w.heap.size + 1 < _; omega)]
      exact hkk.cellv (z2 4 _ rfl).1 (by show ¬ w.heap.size + 1 = g; omega)
    · have hfz : w1.frozen? ⟨w.heap.size + 1, q, none⟩ = false := by
        match q, hq with
        | 0, _ => exact (z2 0 _ rfl).2
        | 1, _ => exact (z2 1 _ rfl).2
        | 2, _ => exact (z2 2 _ rfl).2
        | 3, _ => exact (z2 3 _ rfl).2
        | 4, _ => exact (z2 4 _ rfl).2
      have hk9 := hkk.trans ((Kp.refl (fun j => j = g) _).alloc (.cells #[.int .u64 0, .int .u64 0, .int .u64 0, .int .u64 0] 41))
      exact (hk9.frozen (p := ⟨w.heap.size + 1, q, none⟩) (by show w.heap.size + 1 < _; omega) (by show ¬ w.heap.size + 1 = g; omega)).trans hfz
    · have := new_cells (w := w2) (cs := #[Value.int .u64 0, .int .u64 0, .int .u64 0, .int .u64 0]) (t := 41) (Below.refl _ _) q (.int .u64 0) (by match q, hq with
        | 0, _ => rfl
        | 1, _ => rfl
        | 2, _ => rfl
        | 3, _ => rfl)
      rw [this.1]
      match q, hq with
      | 0, _ => rfl
      | 1, _ => rfl
      | 2, _ => rfl
      | 3, _ => rfl
    · have := new_cells (w := w2) (cs := #[Value.int .u64 0, .int .u64 0, .int .u64 0, .int .u64 0]) (t := 41) (Below.refl _ _) q (.int .u64 0) (by match q, hq with
        | 0, _ => rfl
        | 1, _ => rfl
        | 2, _ => rfl
        | 3, _ => rfl)
      exact this.2
  obtain ⟨b, hbE⟩ : ∃ b, w2.heap.size = b := ⟨_, rfl⟩
  rw [hbE] at TT
  rw [hbE]
  obtain ⟨wx, hwE⟩ : ∃ W, w2.alloc (.cells #[.int .u64 0, .int .u64 0, .int .u64 0, .int .u64 0] 41) = W := ⟨_, rfl⟩
  rw [hwE] at TT
  rw [hwE]
  have T := Lib.hid TT
  clear TT hwE hbE hsz hkk hk
  clear z1 z2 hs1 hw1 hk1 HE HK1 hk2 hc1 hc2 ca cE 
  refine wp_loop_rounds 5 ?_
  rw [rounds_succ]
  have cb0 := Lib.hid (cur_bits g e1 l1 _ T.out.cur)
  rw [hb0] at cb0
  go_wp2_with fail
  refine cb0.out.mono ?_
  rintro e' W' ⟨rfl, hc, hk⟩
  have T' := Lib.hid (T.out.call hc hk)
  clear T cb0
  have a0 := T'.out.ac 0 (by omega)
  have f0 := T'.out.af 0 (by omega)
  have T := Lib.hid (T'.out.put 0 (by omega) x0)
  clear T' hc hk
  go_wp2_with fail
  obtain ⟨wy, hwE⟩ : ∃ W, W'.setCell ⟨b, 0, none⟩ (.int .u64 (x0 : Int)) = W := ⟨_, rfl⟩
  rw [hwE] at T
  rw [hwE]
  clear hwE a0 f0
  rw [rounds_succ]
  have cb1 := Lib.hid (cur_bits g e2 l2 _ T.out.cur)
  rw [hb1] at cb1
  go_wp2_with fail
  refine cb1.out.mono ?_
  rintro e' W' ⟨rfl, hc, hk⟩
  have T' := Lib.hid (T.out.call hc hk)
  clear T cb1
  have a1 := T'.out.ac 1 (by omega)
  have f1 := T'.out.af 1 (by omega)
  have T := Lib.hid (T'.out.put 1 (by omega) x1)
  clear T' hc hk
  go_wp2_with fail
  obtain ⟨wy, hwE⟩ : ∃ W, W'.setCell ⟨b, 1, none⟩ (.int .u64 (x1 : Int)) = W := ⟨_, rfl⟩
  rw [hwE] at T
  rw [hwE]
  clear hwE a1 f1
  rw [rounds_succ]
  have cb2 := Lib.hid (cur_bits g e3 l3 _ T.out.cur)
  rw [hb2] at cb2
  go_wp2_with fail
  refine cb2.out.mono ?_
  rintro e' W' ⟨rfl, hc, hk⟩
  have T' := Lib.hid (T.out.call hc hk)
  clear T cb2
  have a2 := T'.out.ac 2 (by omega)
  have f2 := T'.out.af 2 (by omega)
  have T := Lib.hid (T'.out.put 2 (by omega) x2)
  clear T' hc hk
  go_wp2_with fail
  obtain ⟨wy, hwE⟩ : ∃ W, W'.setCell ⟨b, 2, none⟩ (.int .u64 (x2 : Int)) = W := ⟨_, rfl⟩
  rw [hwE] at T
  rw [hwE]
  clear hwE a2 f2
  rw [rounds_succ]
  have cb3 := Lib.hid (cur_bits g e4 l4 _ T.out.cur)
  rw [hb3] at cb3
  go_wp2_with fail
  refine cb3.out.mono ?_
  rintro e' W' ⟨rfl, hc, hk⟩
  have T' := Lib.hid (T.out.call hc hk)
  clear T cb3
  have a3 := T'.out.ac 3 (by omega)
  have f3 := T'.out.af 3 (by omega)
  have T := Lib.hid (T'.out.put 3 (by omega) x3)
  clear T' hc hk
  go_wp2_with fail
  obtain ⟨wy, hwE⟩ : ∃ W, W'.setCell ⟨b, 3, none⟩ (.int .u64 (x3 : Int)) = W := ⟨_, rfl⟩
  rw [hwE] at T
  rw [hwE]
  clear hwE a3 f3
  have TS : Hid (TkS w g w.heap.size b t m wy l5 e5 ⟨x0, x1, x2, x3⟩) := T
  clear T
  have T := TS
  clear TS
  have a0 : wy.cell? ⟨b, 0, none⟩ = some (.int .u64 (x0 : Int)) := T.out.ac 0 (by omega)
  have a1 : wy.cell? ⟨b, 1, none⟩ = some (.int .u64 (x1 : Int)) := T.out.ac 1 (by omega)
  have a2 : wy.cell? ⟨b, 2, none⟩ = some (.int .u64 (x2 : Int)) := T.out.ac 2 (by omega)
  have a3 : wy.cell? ⟨b, 3, none⟩ = some (.int .u64 (x3 : Int)) := T.out.ac 3 (by omega)
  have t0 : wy.cell? ⟨w.heap.size, 0, none⟩ = some (.int .u64 (t.a0 : Int)) := T.out.tc 0 (by omega)
  have t1 : wy.cell? ⟨w.heap.size, 1, none⟩ = some (.int .u64 (t.a1 : Int)) := T.out.tc 1 (by omega)
  have t2 : wy.cell? ⟨w.heap.size, 2, none⟩ = some (.int .u64 (t.a2 : Int)) := T.out.tc 2 (by omega)
  have t3 : wy.cell? ⟨w.heap.size, 3, none⟩ = some (.int .u64 (t.a3 : Int)) := T.out.tc 3 (by omega)
  have t4 := T.out.tm
  rw [rounds_succ]
  go_wp2_with fail
  refine (ck.out _).mono ?_
  rintro e' wy ⟨rfl, hb⟩
  have T' := Lib.hid (T.out.on hb)
  clear T a0 a1 a2 a3 t0 t1 t2 t3 t4 hb ck
  have T := T'
  clear T'
  cases v2
  · skip
    have a0 : wy.cell? ⟨b, 0, none⟩ = some (.int .u64 (x0 : Int)) := T.out.ac 0 (by omega)
    have a1 : wy.cell? ⟨b, 1, none⟩ = some (.int .u64 (x1 : Int)) := T.out.ac 1 (by omega)
    have a2 : wy.cell? ⟨b, 2, none⟩ = some (.int .u64 (x2 : Int)) := T.out.ac 2 (by omega)
    have a3 : wy.cell? ⟨b, 3, none⟩ = some (.int .u64 (x3 : Int)) := T.out.ac 3 (by omega)
    go_wp2_with fail
    refine (cb.out _).mono ?_
    rintro e' wy ⟨rfl, hb⟩
    have T' := Lib.hid (T.out.on hb)
    clear T a0 a1 a2 a3 hb cb
    have T := T'
    clear T'
    cases v3
    · go_wp2_with fail
      refine (cur_fail g e5 14 l5 wy T.out.cur).mono ?_
      rintro e' wy ⟨⟨_, rfl⟩, hc, hk⟩
      have T' := Lib.hid (T.out.call hc hk)
      clear T hc hk
      have T := T'
      clear T'
      have r0 : wy.cell? ⟨w.heap.size + 1, 0, none⟩ = some (.int .u64 0) := T.out.rc 0 (by omega)
      have r1 : wy.cell? ⟨w.heap.size + 1, 1, none⟩ = some (.int .u64 0) := T.out.rc 1 (by omega)
      have r2 : wy.cell? ⟨w.heap.size + 1, 2, none⟩ = some (.int .u64 0) := T.out.rc 2 (by omega)
      have r3 : wy.cell? ⟨w.heap.size + 1, 3, none⟩ = some (.int .u64 0) := T.out.rc 3 (by omega)
      have r4 := T.out.rm
      have f0 := T.out.rf 0 (by omega)
      have f1 := T.out.rf 1 (by omega)
      have f2 := T.out.rf 2 (by omega)
      have f3 := T.out.rf 3 (by omega)
      have f4 := T.out.rf 4 (by omega)
      have a0 : wy.cell? ⟨b, 0, none⟩ = some (.int .u64 (x0 : Int)) := T.out.ac 0 (by omega)
      have a1 : wy.cell? ⟨b, 1, none⟩ = some (.int .u64 (x1 : Int)) := T.out.ac 1 (by omega)
      have a2 : wy.cell? ⟨b, 2, none⟩ = some (.int .u64 (x2 : Int)) := T.out.ac 2 (by omega)
      have a3 : wy.cell? ⟨b, 3, none⟩ = some (.int .u64 (x3 : Int)) := T.out.ac 3 (by omega)
      go_wp2_with fail
      have hg1 : g < w.heap.size + 1 := by have := T.out.hd; omega
      refine bodyPost_ret (v := cntW ⟨x0, x1, x2, x3⟩ (wrap64 (u : Int))) (by simp [results, Try.results20, go_sem, r0, r1, r2, r3, r4]) rfl ⟨rfl, ?_, ?_⟩
      · exact ((((T.out.cur.set ⟨w.heap.size + 1, 0, none⟩ hg1 _).set ⟨w.heap.size + 1, 1, none⟩ hg1 _).set ⟨w.heap.size + 1, 2, none⟩ hg1 _).set ⟨w.heap.size + 1, 3, none⟩ hg1 _).set ⟨w.heap.size + 1, 4, none⟩ hg1 _
      · have hn9 : w.heap.size + 1 < w.heap.size → (w.heap.size + 1 = g) := fun h => by omega
        exact ((((T.out.kp.setCell (p := ⟨w.heap.size + 1, 0, none⟩) hn9 _).setCell (p := ⟨w.heap.size + 1, 1, none⟩) hn9 _).setCell (p := ⟨w.heap.size + 1, 2, none⟩) hn9 _).setCell (p := ⟨w.heap.size + 1, 3, none⟩) hn9 _).setCell (p := ⟨w.heap.size + 1, 4, none⟩) hn9 _
    · skip
      have r0 : wy.cell? ⟨w.heap.size + 1, 0, none⟩ = some (.int .u64 0) := T.out.rc 0 (by omega)
      have r1 : wy.cell? ⟨w.heap.size + 1, 1, none⟩ = some (.int .u64 0) := T.out.rc 1 (by omega)
      have r2 : wy.cell? ⟨w.heap.size + 1, 2, none⟩ = some (.int .u64 0) := T.out.rc 2 (by omega)
      have r3 : wy.cell? ⟨w.heap.size + 1, 3, none⟩ = some (.int .u64 0) := T.out.rc 3 (by omega)
      have r4 := T.out.rm
      have f0 := T.out.rf 0 (by omega)
      have f1 := T.out.rf 1 (by omega)
      have f2 := T.out.rf 2 (by omega)
      have f3 := T.out.rf 3 (by omega)
      have f4 := T.out.rf 4 (by omega)
      have a0 : wy.cell? ⟨b, 0, none⟩ = some (.int .u64 (x0 : Int)) := T.out.ac 0 (by omega)
      have a1 : wy.cell? ⟨b, 1, none⟩ = some (.int .u64 (x1 : Int)) := T.out.ac 1 (by omega)
      have a2 : wy.cell? ⟨b, 2, none⟩ = some (.int .u64 (x2 : Int)) := T.out.ac 2 (by omega)
      have a3 : wy.cell? ⟨b, 3, none⟩ = some (.int .u64 (x3 : Int)) := T.out.ac 3 (by omega)
      go_wp2_with fail
      have hg1 : g < w.heap.size + 1 := by have := T.out.hd; omega
      refine bodyPost_ret (v := cntW ⟨x0, x1, x2, x3⟩ (wrap64 (u : Int))) (by simp [results, Try.results20, go_sem, r0, r1, r2, r3, r4]) rfl ⟨rfl, ?_, ?_⟩
      · exact ((((T.out.cur.set ⟨w.heap.size + 1, 0, none⟩ hg1 _).set ⟨w.heap.size + 1, 1, none⟩ hg1 _).set ⟨w.heap.size + 1, 2, none⟩ hg1 _).set ⟨w.heap.size + 1, 3, none⟩ hg1 _).set ⟨w.heap.size + 1, 4, none⟩ hg1 _
      · have hn9 : w.heap.size + 1 < w.heap.size → (w.heap.size + 1 = g) := fun h => by omega
        exact ((((T.out.kp.setCell (p := ⟨w.heap.size + 1, 0, none⟩) hn9 _).setCell (p := ⟨w.heap.size + 1, 1, none⟩) hn9 _).setCell (p := ⟨w.heap.size + 1, 2, none⟩) hn9 _).setCell (p := ⟨w.heap.size + 1, 3, none⟩) hn9 _).setCell (p := ⟨w.heap.size + 1, 4, none⟩) hn9 _
  · go_wp2_with fail
    refine (cur_fail g e5 5 l5 wy T.out.cur).mono ?_
    rintro e' wy ⟨⟨_, rfl⟩, hc, hk⟩
    have T' := Lib.hid (T.out.call hc hk)
    clear T hc hk
    have T := T'
    clear T'
    have a0 : wy.cell? ⟨b, 0, none⟩ = some (.int .u64 (x0 : Int)) := T.out.ac 0 (by omega)
    have a1 : wy.cell? ⟨b, 1, none⟩ = some (.int .u64 (x1 : Int)) := T.out.ac 1 (by omega)
    have a2 : wy.cell? ⟨b, 2, none⟩ = some (.int .u64 (x2 : Int)) := T.out.ac 2 (by omega)
    have a3 : wy.cell? ⟨b, 3, none⟩ = some (.int .u64 (x3 : Int)) := T.out.ac 3 (by omega)
    go_wp2_with fail
    refine (cb.out _).mono ?_
    rintro e' wy ⟨rfl, hb⟩
    have T' := Lib.hid (T.out.on hb)
    clear T a0 a1 a2 a3 hb cb
    have T := T'
    clear T'
    cases v3
    · go_wp2_with fail
      refine (cur_fail g (failM e5 5) 14 l5 wy T.out.cur).mono ?_
      rintro e' wy ⟨⟨_, rfl⟩, hc, hk⟩
      have T' := Lib.hid (T.out.call hc hk)
      clear T hc hk
      have T := T'
      clear T'
      have r0 : wy.cell? ⟨w.heap.size + 1, 0, none⟩ = some (.int .u64 0) := T.out.rc 0 (by omega)
      have r1 : wy.cell? ⟨w.heap.size + 1, 1, none⟩ = some (.int .u64 0) := T.out.rc 1 (by omega)
      have r2 : wy.cell? ⟨w.heap.size + 1, 2, none⟩ = some (.int .u64 0) := T.out.rc 2 (by omega)
      have r3 : wy.cell? ⟨w.heap.size + 1, 3, none⟩ = some (.int .u64 0) := T.out.rc 3 (by omega)
      have r4 := T.out.rm
      have f0 := T.out.rf 0 (by omega)
      have f1 := T.out.rf 1 (by omega)
      have f2 := T.out.rf 2 (by omega)
      have f3 := T.out.rf 3 (by omega)
      have f4 := T.out.rf 4 (by omega)
      have a0 : wy.cell? ⟨b, 0, none⟩ = some (.int .u64 (x0 : Int)) := T.out.ac 0 (by omega)
      have a1 : wy.cell? ⟨b, 1, none⟩ = some (.int .u64 (x1 : Int)) := T.out.ac 1 (by omega)
      have a2 : wy.cell? ⟨b, 2, none⟩ = some (.int .u64 (x2 : Int)) := T.out.ac 2 (by omega)
      have a3 : wy.cell? ⟨b, 3, none⟩ = some (.int .u64 (x3 : Int)) := T.out.ac 3 (by omega)
      go_wp2_with fail
      have hg1 : g < w.heap.size + 1 := by have := T.out.hd; omega
      refine bodyPost_ret (v := cntW ⟨x0, x1, x2, x3⟩ (wrap64 (u : Int))) (by simp [results, Try.results20, go_sem, r0, r1, r2, r3, r4]) rfl ⟨rfl, ?_, ?_⟩
      · exact ((((T.out.cur.set ⟨w.heap.size + 1, 0, none⟩ hg1 _).set ⟨w.heap.size + 1, 1, none⟩ hg1 _).set ⟨w.heap.size + 1, 2, none⟩ hg1 _).set ⟨w.heap.size + 1, 3, none⟩ hg1 _).set ⟨w.heap.size + 1, 4, none⟩ hg1 _
      · have hn9 : w.heap.size + 1 < w.heap.size → (w.heap.size + 1 = g) := fun h => by omega
        exact ((((T.out.kp.setCell (p := ⟨w.heap.size + 1, 0, none⟩) hn9 _).setCell (p := ⟨w.heap.size + 1, 1, none⟩) hn9 _).setCell (p := ⟨w.heap.size + 1, 2, none⟩) hn9 _).setCell (p := ⟨w.heap.size + 1, 3, none⟩) hn9 _).setCell (p := ⟨w.heap.size + 1, 4, none⟩) hn9 _
    · skip
      have r0 : wy.cell? ⟨w.heap.size + 1, 0, none⟩ = some (.int .u64 0) := T.out.rc 0 (by omega)
      have r1 : wy.cell? ⟨w.heap.size + 1, 1, none⟩ = some (.int .u64 0) := T.out.rc 1 (by omega)
      have r2 : wy.cell? ⟨w.heap.size + 1, 2, none⟩ = some (.int .u64 0) := T.out.rc 2 (by omega)
      have r3 : wy.cell? ⟨w.heap.size + 1, 3, none⟩ = some (.int .u64 0) := T.out.rc 3 (by omega)
      have r4 := T.out.rm
      have f0 := T.out.rf 0 (by omega)
      have f1 := T.out.rf 1 (by omega)
      have f2 := T.out.rf 2 (by omega)
      have f3 := T.out.rf 3 (by omega)
      have f4 := T.out.rf 4 (by omega)
      have a0 : wy.cell? ⟨b, 0, none⟩ = some (.int .u64 (x0 : Int)) := T.out.ac 0 (by omega)
      have a1 : wy.cell? ⟨b, 1, none⟩ = some (.int .u64 (x1 : Int)) := T.out.ac 1 (by omega)
      have a2 : wy.cell? ⟨b, 2, none⟩ = some (.int .u64 (x2 : Int)) := T.out.ac 2 (by omega)
      have a3 : wy.cell? ⟨b, 3, none⟩ = some (.int .u64 (x3 : Int)) := T.out.ac 3 (by omega)
      go_wp2_with fail
      have hg1 : g < w.heap.size + 1 := by have := T.out.hd; omega
      refine bodyPost_ret (v := cntW ⟨x0, x1, x2, x3⟩ (wrap64 (u : Int))) (by simp [results, Try.results20, go_sem, r0, r1, r2, r3, r4]) rfl ⟨rfl, ?_, ?_⟩
      · exact ((((T.out.cur.set ⟨w.heap.size + 1, 0, none⟩ hg1 _).set ⟨w.heap.size + 1, 1, none⟩ hg1 _).set ⟨w.heap.size + 1, 2, none⟩ hg1 _).set ⟨w.heap.size + 1, 3, none⟩ hg1 _).set ⟨w.heap.size + 1, 4, none⟩ hg1 _
      · have hn9 : w.heap.size + 1 < w.heap.size → (w.heap.size + 1 = g) := fun h => by omega
        exact ((((T.out.kp.setCell (p := ⟨w.heap.size + 1, 0, none⟩) hn9 _).setCell (p := ⟨w.heap.size + 1, 1, none⟩) hn9 _).setCell (p := ⟨w.heap.size + 1, 2, none⟩) hn9 _).setCell (p := ⟨w.heap.size + 1, 3, none⟩) hn9 _).setCell (p := ⟨w.heap.size + 1, 4, none⟩) hn9 _

set_option maxRecDepth 100000 in
set_option maxHeartbeats 8000000 in
theorem take_B (g e left : Nat) (l : List Nat) (n : Int) (t : W4) (m : Int) (w : World) (h : CurW w g l e) (hl : left ≤ 200) (u e1 : Nat) (l1 : List Nat) (ha : bitsM l e = (u, l1, e1)) (he : e1 = 0) (hu : u = 0) : TakeP g e left l n t m w := by
  have hbl := h.bytes
  have hu64 : u < 18446744073709551616 := by have := bitsM_lt (e := e) hbl; rw [ha] at this; exact this
  obtain ⟨⟨x0, l2, e2⟩, hb0⟩ : ∃ r, bitsM l1 (manyM u e1 left) = r := ⟨_, rfl⟩
  obtain ⟨⟨x1, l3, e3⟩, hb1⟩ : ∃ r, bitsM l2 e2 = r := ⟨_, rfl⟩
  obtain ⟨⟨x2, l4, e4⟩, hb2⟩ : ∃ r, bitsM l3 e3 = r := ⟨_, rfl⟩
  obtain ⟨⟨x3, l5, e5⟩, hb3⟩ : ∃ r, bitsM l4 e4 = r := ⟨_, rfl⟩
  have hT : takeM l e left n (fun s => decide (0 < m) && eqW t s) = ⟨u, ⟨x0, x1, x2, x3⟩, l5, if insW ⟨x0, x1, x2, x3⟩ (rangeM 0 n) = true then (if (decide (0 < m) && eqW t ⟨x0, x1, x2, x3⟩) = true then failM e5 5 else e5) else failM (if (decide (0 < m) && eqW t ⟨x0, x1, x2, x3⟩) = true then failM e5 5 else e5) 14⟩ := by
    unfold takeM
    simp only [ha, hb0, hb1, hb2, hb3]
  unfold TakeP
  rw [hT]
  have ck := Lib.hid (fun w => like_any t m ⟨x0, x1, x2, x3⟩ w)
  have cb := Lib.hid (fun w => below_any ⟨x0, x1, x2, x3⟩ n w)
  generalize (decide (0 < m) && eqW t ⟨x0, x1, x2, x3⟩) = v2 at *
  generalize insW ⟨x0, x1, x2, x3⟩ (rangeM 0 n) = v3 at *
  have hgl : g < w.heap.size := World.block_lt_of_cell? _ _ h.c1
  obtain ⟨w1, hw1⟩ : ∃ w1, (w.alloc (.cells #[.int .u64 (t.a0 : Int), .int .u64 (t.a1 : Int), .int .u64 (t.a2 : Int), .int .u64 (t.a3 : Int), .int .i64 m] 55)).alloc (.cells #[.int .u64 0, .int .u64 0, .int .u64 0, .int .u64 0, .int .i64 0] 55) = w1 := ⟨_, rfl⟩
  have hk1 : Kp (fun _ => False) w w1 := by rw [← hw1]; exact ((Kp.refl _ _).alloc _).alloc _
  have hs1 : w1.heap.size = w.heap.size + 1 + 1 := by rw [← hw1]; simp
  have z1 : ∀ j v, #[Value.int .u64 (t.a0 : Int), .int .u64 (t.a1 : Int), .int .u64 (t.a2 : Int), .int .u64 (t.a3 : Int), .int .i64 m][j]? = some v → w1.cell? ⟨w.heap.size, j, none⟩ = some v := fun j v hv => by
    rw [← hw1]
    exact (new_cells (w := w) ((Below.refl _ _).alloc (Nat.le_refl _) _) j v hv).1
  have z2 : ∀ j v, #[Value.int .u64 0, .int .u64 0, .int .u64 0, .int .u64 0, .int .i64 0][j]? = some v → w1.cell? ⟨w.heap.size + 1, j, none⟩ = some v ∧ w1.frozen? ⟨w.heap.size + 1, j, none⟩ = false := fun j v hv => by
    rw [← hw1]
    have := new_cells (w := w.alloc (.cells #[.int .u64 (t.a0 : Int), .int .u64 (t.a1 : Int), .int .u64 (t.a2 : Int), .int .u64 (t.a3 : Int), .int .i64 m] 55)) (cs := #[Value.int .u64 0, .int .u64 0, .int .u64 0, .int .u64 0, .int .i64 0]) (t := 55) (Below.refl _ _) j v hv
    simpa using this
  have hc1 := h.on hk1
  have ca := Lib.hid (cur_bits g e l w1 hc1)
  rw [ha] at ca
  have HE := Lib.hid hw1
  have HK1 := Lib.hid hk1
  subst he
  have q2 : ((u : Int) == 0) = true := by simp [hu]
  have HWR : Hid (wrap64 (u : Int) = 0) := Lib.hid (by unfold wrap64; omega)
  go_enter Try.func20, Try.ntmps20
  go_wp2_with fail
  refine ca.out.mono ?_
  rintro e' w2 ⟨rfl, hc2, hk2⟩
  have cE := Lib.hid (cur_err g _ _ w2 hc2)
  go_wp2_with fail
  refine cE.out.mono ?_
  rintro e' w' ⟨rfl, rfl⟩
  go_wp2_with fail
  refine (cur_fail g 0 5 l1 w2 hc2).mono ?_
  rintro e' w3 ⟨⟨_, rfl⟩, hc3, hk3⟩
  go_wp2_with fail
  have hk := ((HK1.out.mono fun _ _ h => h.elim).trans hk2).trans hk3
  have hmany : manyM u 0 left = (failM 0 5) := by simp [manyM, failM, hu]
  rw [hmany] at hb0
  have hkk : Kp (fun j => j = g) w1 w3 := hk2.trans hk3
  have hsz : w.heap.size + 1 + 1 ≤ w3.heap.size := by have := hk2.size; have := hk3.size; omega
  have TT : TkS w g w.heap.size w3.heap.size t m (w3.alloc (.cells #[.int .u64 0, .int .u64 0, .int .u64 0, .int .u64 0] 41)) l1 (failM 0 5) zW := by
    refine ⟨hc3.on ((Kp.refl (fun _ => False) _).alloc _), fun q hq => ?_, ?_, fun q hq => ?_, ?_, fun q hq => ?_, fun q hq => ?_, fun q hq => ?_, by omega, by omega, Nat.le_refl _, hk.alloc _⟩
    · rw [World.cell?_alloc_lt _ _ _ (by show w.heap.size < _; omega)]
      refine hkk.cellv (z1 q _ ?_) (by show ¬ w.heap.size = g; omega)
      match q, hq with
      | 0, _ => rfl
      | 1, _ => rfl
      | 2, _ => rfl
      | 3, _ => rfl
    · rw [World.cell?_alloc_lt _ _ _ (by show w.heap.size < _; omega)]
      exact hkk.cellv (z1 4 _ rfl) (by show ¬ w.heap.size = g; omega)
    · rw [World.cell?_alloc_lt _ _ _ (by show w.heap.size + 1 < _; omega)]
      refine hkk.cellv (z2 q _ ?_).1 (by show ¬ w.heap.size + 1 = g; omega)
      match q, hq with
      | 0, _ => rfl
      | 1, _ => rfl
      | 2, _ => rfl
      | 3, _ => rfl
    · rw [World.cell?_alloc_lt _ _ _ (by show w.heap.size + 1 < _; omega)]
      exact hkk.cellv (z2 4 _ rfl).1 (by show ¬ w.heap.size + 1 = g; omega)
    · have hfz : w1.frozen? ⟨w.heap.size + 1, q, none⟩ = false := by
        match q, hq with
        | 0, _ => exact (z2 0 _ rfl).2
        | 1, _ => exact (z2 1 _ rfl).2
        | 2, _ => exact (z2 2 _ rfl).2
        | 3, _ => exact (z2 3 _ rfl).2
        | 4, _ => exact (z2 4 _ rfl).2
      have hk9 := hkk.trans ((Kp.refl (fun j => j = g) _).alloc (.cells #[.int .u64 0, .int .u64 0, .int .u64 0, .int .u64 0] 41))
      exact (hk9.frozen (p := ⟨w.heap.size + 1, q, none⟩) (by show w.heap.size + 1 < _; omega) (by show ¬ w.heap.size + 1 = g; omega)).trans hfz
    · have := new_cells (w := w3) (cs := #[Value.int .u64 0, .int .u64 0, .int .u64 0, .int .u64 0]) (t := 41) (Below.refl _ _) q (.int .u64 0) (by match q, hq with
        | 0, _ => rfl
        | 1, _ => rfl
        | 2, _ => rfl
        | 3, _ => rfl)
      rw [this.1]
      match q, hq with
      | 0, _ => rfl
      | 1, _ => rfl
      | 2, _ => rfl
      | 3, _ => rfl
    · have := new_cells (w := w3) (cs := #[Value.int .u64 0, .int .u64 0, .int .u64 0, .int .u64 0]) (t := 41) (Below.refl _ _) q (.int .u64 0) (by match q, hq with
        | 0, _ => rfl
        | 1, _ => rfl
        | 2, _ => rfl
        | 3, _ => rfl)
      exact this.2
  obtain ⟨b, hbE⟩ : ∃ b, w3.heap.size = b := ⟨_, rfl⟩
  rw [hbE] at TT
  rw [hbE]
  obtain ⟨wx, hwE⟩ : ∃ W, w3.alloc (.cells #[.int .u64 0, .int .u64 0, .int .u64 0, .int .u64 0] 41) = W := ⟨_, rfl⟩
  rw [hwE] at TT
  rw [hwE]
  have T := Lib.hid TT
  clear TT hwE hbE hsz hkk hk
  clear z1 z2 hs1 hw1 hk1 HE HK1 hk2 hc1 hc2 ca cE hk3 hc3
  refine wp_loop_rounds 5 ?_
  rw [rounds_succ]
  have cb0 := Lib.hid (cur_bits g (failM 0 5) l1 _ T.out.cur)
  rw [hb0] at cb0
  go_wp2_with fail
  refine cb0.out.mono ?_
  rintro e' W' ⟨rfl, hc, hk⟩
  have T' := Lib.hid (T.out.call hc hk)
  clear T cb0
  have a0 := T'.out.ac 0 (by omega)
  have f0 := T'.out.af 0 (by omega)
  have T := Lib.hid (T'.out.put 0 (by omega) x0)
  clear T' hc hk
  go_wp2_with fail
  obtain ⟨wy, hwE⟩ : ∃ W, W'.setCell ⟨b, 0, none⟩ (.int .u64 (x0 : Int)) = W := ⟨_, rfl⟩
  rw [hwE] at T
  rw [hwE]
  clear hwE a0 f0
  rw [rounds_succ]
  have cb1 := Lib.hid (cur_bits g e2 l2 _ T.out.cur)
  rw [hb1] at cb1
  go_wp2_with fail
  refine cb1.out.mono ?_
  rintro e' W' ⟨rfl, hc, hk⟩
  have T' := Lib.hid (T.out.call hc hk)
  clear T cb1
  have a1 := T'.out.ac 1 (by omega)
  have f1 := T'.out.af 1 (by omega)
  have T := Lib.hid (T'.out.put 1 (by omega) x1)
  clear T' hc hk
  go_wp2_with fail
  obtain ⟨wy, hwE⟩ : ∃ W, W'.setCell ⟨b, 1, none⟩ (.int .u64 (x1 : Int)) = W := ⟨_, rfl⟩
  rw [hwE] at T
  rw [hwE]
  clear hwE a1 f1
  rw [rounds_succ]
  have cb2 := Lib.hid (cur_bits g e3 l3 _ T.out.cur)
  rw [hb2] at cb2
  go_wp2_with fail
  refine cb2.out.mono ?_
  rintro e' W' ⟨rfl, hc, hk⟩
  have T' := Lib.hid (T.out.call hc hk)
  clear T cb2
  have a2 := T'.out.ac 2 (by omega)
  have f2 := T'.out.af 2 (by omega)
  have T := Lib.hid (T'.out.put 2 (by omega) x2)
  clear T' hc hk
  go_wp2_with fail
  obtain ⟨wy, hwE⟩ : ∃ W, W'.setCell ⟨b, 2, none⟩ (.int .u64 (x2 : Int)) = W := ⟨_, rfl⟩
  rw [hwE] at T
  rw [hwE]
  clear hwE a2 f2
  rw [rounds_succ]
  have cb3 := Lib.hid (cur_bits g e4 l4 _ T.out.cur)
  rw [hb3] at cb3
  go_wp2_with fail
  refine cb3.out.mono ?_
  rintro e' W' ⟨rfl, hc, hk⟩
  have T' := Lib.hid (T.out.call hc hk)
  clear T cb3
  have a3 := T'.out.ac 3 (by omega)
  have f3 := T'.out.af 3 (by omega)
  have T := Lib.hid (T'.out.put 3 (by omega) x3)
  clear T' hc hk
  go_wp2_with fail
  obtain ⟨wy, hwE⟩ : ∃ W, W'.setCell ⟨b, 3, none⟩ (.int .u64 (x3 : Int)) = W := ⟨_, rfl⟩
  rw [hwE] at T
  rw [hwE]
  clear hwE a3 f3
  have TS : Hid (TkS w g w.heap.size b t m wy l5 e5 ⟨x0, x1, x2, x3⟩) := T
  clear T
  have T := TS
  clear TS
  have a0 : wy.cell? ⟨b, 0, none⟩ = some (.int .u64 (x0 : Int)) := T.out.ac 0 (by omega)
  have a1 : wy.cell? ⟨b, 1, none⟩ = some (.int .u64 (x1 : Int)) := T.out.ac 1 (by omega)
  have a2 : wy.cell? ⟨b, 2, none⟩ = some (.int .u64 (x2 : Int)) := T.out.ac 2 (by omega)
  have a3 : wy.cell? ⟨b, 3, none⟩ = some (.int .u64 (x3 : Int)) := T.out.ac 3 (by omega)
  have t0 : wy.cell? ⟨w.heap.size, 0, none⟩ = some (.int .u64 (t.a0 : Int)) := T.out.tc 0 (by omega)
  have t1 : wy.cell? ⟨w.heap.size, 1, none⟩ = some (.int .u64 (t.a1 : Int)) := T.out.tc 1 (by omega)
  have t2 : wy.cell? ⟨w.heap.size, 2, none⟩ = some (.int .u64 (t.a2 : Int)) := T.out.tc 2 (by omega)
  have t3 : wy.cell? ⟨w.heap.size, 3, none⟩ = some (.int .u64 (t.a3 : Int)) := T.out.tc 3 (by omega)
  have t4 := T.out.tm
  rw [rounds_succ]
  go_wp2_with fail
  refine (ck.out _).mono ?_
  rintro e' wy ⟨rfl, hb⟩
  have T' := Lib.hid (T.out.on hb)
  clear T a0 a1 a2 a3 t0 t1 t2 t3 t4 hb ck
  have T := T'
  clear T'
  cases v2
  · skip
    have a0 : wy.cell? ⟨b, 0, none⟩ = some (.int .u64 (x0 : Int)) := T.out.ac 0 (by omega)
    have a1 : wy.cell? ⟨b, 1, none⟩ = some (.int .u64 (x1 : Int)) := T.out.ac 1 (by omega)
    have a2 : wy.cell? ⟨b, 2, none⟩ = some (.int .u64 (x2 : Int)) := T.out.ac 2 (by omega)
    have a3 : wy.cell? ⟨b, 3, none⟩ = some (.int .u64 (x3 : Int)) := T.out.ac 3 (by omega)
    go_wp2_with fail
    refine (cb.out _).mono ?_
    rintro e' wy ⟨rfl, hb⟩
    have T' := Lib.hid (T.out.on hb)
    clear T a0 a1 a2 a3 hb cb
    have T := T'
    clear T'
    cases v3
    · go_wp2_with fail
      refine (cur_fail g e5 14 l5 wy T.out.cur).mono ?_
      rintro e' wy ⟨⟨_, rfl⟩, hc, hk⟩
      have T' := Lib.hid (T.out.call hc hk)
      clear T hc hk
      have T := T'
      clear T'
      have r0 : wy.cell? ⟨w.heap.size + 1, 0, none⟩ = some (.int .u64 0) := T.out.rc 0 (by omega)
      have r1 : wy.cell? ⟨w.heap.size + 1, 1, none⟩ = some (.int .u64 0) := T.out.rc 1 (by omega)
      have r2 : wy.cell? ⟨w.heap.size + 1, 2, none⟩ = some (.int .u64 0) := T.out.rc 2 (by omega)
      have r3 : wy.cell? ⟨w.heap.size + 1, 3, none⟩ = some (.int .u64 0) := T.out.rc 3 (by omega)
      have r4 := T.out.rm
      have f0 := T.out.rf 0 (by omega)
      have f1 := T.out.rf 1 (by omega)
      have f2 := T.out.rf 2 (by omega)
      have f3 := T.out.rf 3 (by omega)
      have f4 := T.out.rf 4 (by omega)
      have a0 : wy.cell? ⟨b, 0, none⟩ = some (.int .u64 (x0 : Int)) := T.out.ac 0 (by omega)
      have a1 : wy.cell? ⟨b, 1, none⟩ = some (.int .u64 (x1 : Int)) := T.out.ac 1 (by omega)
      have a2 : wy.cell? ⟨b, 2, none⟩ = some (.int .u64 (x2 : Int)) := T.out.ac 2 (by omega)
      have a3 : wy.cell? ⟨b, 3, none⟩ = some (.int .u64 (x3 : Int)) := T.out.ac 3 (by omega)
      go_wp2_with fail
      have hg1 : g < w.heap.size + 1 := by have := T.out.hd; omega
      refine bodyPost_ret (v := cntW ⟨x0, x1, x2, x3⟩ 0) (by simp [results, Try.results20, go_sem, r0, r1, r2, r3, r4]) rfl ⟨by simp [wrap64], ?_, ?_⟩
      · exact ((((T.out.cur.set ⟨w.heap.size + 1, 0, none⟩ hg1 _).set ⟨w.heap.size + 1, 1, none⟩ hg1 _).set ⟨w.heap.size + 1, 2, none⟩ hg1 _).set ⟨w.heap.size + 1, 3, none⟩ hg1 _).set ⟨w.heap.size + 1, 4, none⟩ hg1 _
      · have hn9 : w.heap.size + 1 < w.heap.size → (w.heap.size + 1 = g) := fun h => by omega
        exact ((((T.out.kp.setCell (p := ⟨w.heap.size + 1, 0, none⟩) hn9 _).setCell (p := ⟨w.heap.size + 1, 1, none⟩) hn9 _).setCell (p := ⟨w.heap.size + 1, 2, none⟩) hn9 _).setCell (p := ⟨w.heap.size + 1, 3, none⟩) hn9 _).setCell (p := ⟨w.heap.size + 1, 4, none⟩) hn9 _
    · skip
      have r0 : wy.cell? ⟨w.heap.size + 1, 0, none⟩ = some (.int .u64 0) := T.out.rc 0 (by omega)
      have r1 : wy.cell? ⟨w.heap.size + 1, 1, none⟩ = some (.int .u64 0) := T.out.rc 1 (by omega)
      have r2 : wy.cell? ⟨w.heap.size + 1, 2, none⟩ = some (.int .u64 0) := T.out.rc 2 (by omega)
      have r3 : wy.cell? ⟨w.heap.size + 1, 3, none⟩ = some (.int .u64 0) := T.out.rc 3 (by omega)
      have r4 := T.out.rm
      have f0 := T.out.rf 0 (by omega)
      have f1 := T.out.rf 1 (by omega)
      have f2 := T.out.rf 2 (by omega)
      have f3 := T.out.rf 3 (by omega)
      have f4 := T.out.rf 4 (by omega)
      have a0 : wy.cell? ⟨b, 0, none⟩ = some (.int .u64 (x0 : Int)) := T.out.ac 0 (by omega)
      have a1 : wy.cell? ⟨b, 1, none⟩ = some (.int .u64 (x1 : Int)) := T.out.ac 1 (by omega)
      have a2 : wy.cell? ⟨b, 2, none⟩ = some (.int .u64 (x2 : Int)) := T.out.ac 2 (by omega)
      have a3 : wy.cell? ⟨b, 3, none⟩ = some (.int .u64 (x3 : Int)) := T.out.ac 3 (by omega)
      go_wp2_with fail
      have hg1 : g < w.heap.size + 1 := by have := T.out.hd; omega
      refine bodyPost_ret (v := cntW ⟨x0, x1, x2, x3⟩ 0) (by simp [results, Try.results20, go_sem, r0, r1, r2, r3, r4]) rfl ⟨by simp [wrap64], ?_, ?_⟩
      · exact ((((T.out.cur.set ⟨w.heap.size + 1, 0, none⟩ hg1 _).set ⟨w.heap.size + 1, 1, none⟩ hg1 _).set ⟨w.heap.size + 1, 2, none⟩ hg1 _).set ⟨w.heap.size + 1, 3, none⟩ hg1 _).set ⟨w.heap.size + 1, 4, none⟩ hg1 _
      · have hn9 : w.heap.size + 1 < w.heap.size → (w.heap.size + 1 = g) := fun h => by omega
        exact ((((T.out.kp.setCell (p := ⟨w.heap.size + 1, 0, none⟩) hn9 _).setCell (p := ⟨w.heap.size + 1, 1, none⟩) hn9 _).setCell (p := ⟨w.heap.size + 1, 2, none⟩) hn9 _).setCell (p := ⟨w.heap.size + 1, 3, none⟩) hn9 _).setCell (p := ⟨w.heap.size + 1, 4, none⟩) hn9 _
  · go_wp2_with fail
    refine (cur_fail g e5 5 l5 wy T.out.cur).mono ?_
    rintro e' wy ⟨⟨_, rfl⟩, hc, hk⟩
    have T' := Lib.hid (T.out.call hc hk)
    clear T hc hk
    have T := T'
    clear T'
    have a0 : wy.cell? ⟨b, 0, none⟩ = some (.int .u64 (x0 : Int)) := T.out.ac 0 (by omega)
    have a1 : wy.cell? ⟨b, 1, none⟩ = some (.int .u64 (x1 : Int)) := T.out.ac 1 (by omega)
    have a2 : wy.cell? ⟨b, 2, none⟩ = some (.int .u64 (x2 : Int)) := T.out.ac 2 (by omega)
    have a3 : wy.cell? ⟨b, 3, none⟩ = some (.int .u64 (x3 : Int)) := T.out.ac 3 (by omega)
    go_wp2_with fail
    refine (cb.out _).mono ?_
    rintro e' wy ⟨rfl, hb⟩
    have T' := Lib.hid (T.out.on hb)
    clear T a0 a1 a2 a3 hb cb
    have T := T'
    clear T'
    cases v3
    · go_wp2_with fail
      refine (cur_fail g (failM e5 5) 14 l5 wy T.out.cur).mono ?_
      rintro e' wy ⟨⟨_, rfl⟩, hc, hk⟩
      have T' := Lib.hid (T.out.call hc hk)
      clear T hc hk
      have T := T'
      clear T'
      have r0 : wy.cell? ⟨w.heap.size + 1, 0, none⟩ = some (.int .u64 0) := T.out.rc 0 (by omega)
      have r1 : wy.cell? ⟨w.heap.size + 1, 1, none⟩ = some (.int .u64 0) := T.out.rc 1 (by omega)
      have r2 : wy.cell? ⟨w.heap.size + 1, 2, none⟩ = some (.int .u64 0) := T.out.rc 2 (by omega)
      have r3 : wy.cell? ⟨w.heap.size + 1, 3, none⟩ = some (.int .u64 0) := T.out.rc 3 (by omega)
      have r4 := T.out.rm
      have f0 := T.out.rf 0 (by omega)
      have f1 := T.out.rf 1 (by omega)
      have f2 := T.out.rf 2 (by omega)
      have f3 := T.out.rf 3 (by omega)
      have f4 := T.out.rf 4 (by omega)
      have a0 : wy.cell? ⟨b, 0, none⟩ = some (.int .u64 (x0 : Int)) := T.out.ac 0 (by omega)
      have a1 : wy.cell? ⟨b, 1, none⟩ = some (.int .u64 (x1 : Int)) := T.out.ac 1 (by omega)
      have a2 : wy.cell? ⟨b, 2, none⟩ = some (.int .u64 (x2 : Int)) := T.out.ac 2 (by omega)
      have a3 : wy.cell? ⟨b, 3, none⟩ = some (.int .u64 (x3 : Int)) := T.out.ac 3 (by omega)
      go_wp2_with fail
      have hg1 : g < w.heap.size + 1 := by have := T.out.hd; omega
      refine bodyPost_ret (v := cntW ⟨x0, x1, x2, x3⟩ 0) (by simp [results, Try.results20, go_sem, r0, r1, r2, r3, r4]) rfl ⟨by simp [wrap64], ?_, ?_⟩
      · exact ((((T.out.cur.set ⟨w.heap.size + 1, 0, none⟩ hg1 _).set ⟨w.heap.size + 1, 1, none⟩ hg1 _).set ⟨w.heap.size + 1, 2, none⟩ hg1 _).set ⟨w.heap.size + 1, 3, none⟩ hg1 _).set ⟨w.heap.size + 1, 4, none⟩ hg1 _
      · have hn9 : w.heap.size + 1 < w.heap.size → (w.heap.size + 1 = g) := fun h => by omega
        exact ((((T.out.kp.setCell (p := ⟨w.heap.size + 1, 0, none⟩) hn9 _).setCell (p := ⟨w.heap.size + 1, 1, none⟩) hn9 _).setCell (p := ⟨w.heap.size + 1, 2, none⟩) hn9 _).setCell (p := ⟨w.heap.size + 1, 3, none⟩) hn9 _).setCell (p := ⟨w.heap.size + 1, 4, none⟩) hn9 _
    · skip
      have r0 : wy.cell? ⟨w.heap.size + 1, 0, none⟩ = some (.int .u64 0) := T.out.rc 0 (by omega)
      have r1 : wy.cell? ⟨w.heap.size + 1, 1, none⟩ = some (.int .u64 0) := T.out.rc 1 (by omega)
      have r2 : wy.cell? ⟨w.heap.size + 1, 2, none⟩ = some (.int .u64 0) := T.out.rc 2 (by omega)
      have r3 : wy.cell? ⟨w.heap.size + 1, 3, none⟩ = some (.int .u64 0) := T.out.rc 3 (by omega)
      have r4 := T.out.rm
      have f0 := T.out.rf 0 (by omega)
      have f1 := T.out.rf 1 (by omega)
      have f2 := T.out.rf 2 (by omega)
      have f3 := T.out.rf 3 (by omega)
      have f4 := T.out.rf 4 (by omega)
      have a0 : wy.cell? ⟨b, 0, none⟩ = some (.int .u64 (x0 : Int)) := T.out.ac 0 (by omega)
      have a1 : wy.cell? ⟨b, 1, none⟩ = some (.int .u64 (x1 : Int)) := T.out.ac 1 (by omega)
      have a2 : wy.cell? ⟨b, 2, none⟩ = some (.int .u64 (x2 : Int)) := T.out.ac 2 (by omega)
      have a3 : wy.cell? ⟨b, 3, none⟩ = some (.int .u64 (x3 : Int)) := T.out.ac 3 (by omega)
      go_wp2_with fail
      have hg1 : g < w.heap.size + 1 := by have := T.out.hd; omega
      refine bodyPost_ret (v := cntW ⟨x0, x1, x2, x3⟩ 0) (by simp [results, Try.results20, go_sem, r0, r1, r2, r3, r4]) rfl ⟨by simp [wrap64], ?_, ?_⟩
      · exact ((((T.out.cur.set ⟨w.heap.size + 1, 0, none⟩ hg1 _).set ⟨w.heap.size + 1, 1, none⟩ hg1 _).set ⟨w.heap.size + 1, 2, none⟩ hg1 _).set ⟨w.heap.size + 1, 3, none⟩ hg1 _).set ⟨w.heap.size + 1, 4, none⟩ hg1 _
      · have hn9 : w.heap.size + 1 < w.heap.size → (w.heap.size + 1 = g) := fun h => by omega
        exact ((((T.out.kp.setCell (p := ⟨w.heap.size + 1, 0, none⟩) hn9 _).setCell (p := ⟨w.heap.size + 1, 1, none⟩) hn9 _).setCell (p := ⟨w.heap.size + 1, 2, none⟩) hn9 _).setCell (p := ⟨w.heap.size + 1, 3, none⟩) hn9 _).setCell (p := ⟨w.heap.size + 1, 4, none⟩) hn9 _

set_option maxRecDepth 100000 in
set_option maxHeartbeats 8000000 in
theorem take_C (g e left : Nat) (l : List Nat) (n : Int) (t : W4) (m : Int) (w : World) (h : CurW w g l e) (hl : left ≤ 200) (u e1 : Nat) (l1 : List Nat) (ha : bitsM l e = (u, l1, e1)) (he : e1 = 0) (hu : ¬ u = 0) (hg : left < u) : TakeP g e left l n t m w := by
  have hbl := h.bytes
  have hu64 : u < 18446744073709551616 := by have := bitsM_lt (e := e) hbl; rw [ha] at this; exact this
  obtain ⟨⟨x0, l2, e2⟩, hb0⟩ : ∃ r, bitsM l1 (manyM u e1 left) = r := ⟨_, rfl⟩
  obtain ⟨⟨x1, l3, e3⟩, hb1⟩ : ∃ r, bitsM l2 e2 = r := ⟨_, rfl⟩
  obtain ⟨⟨x2, l4, e4⟩, hb2⟩ : ∃ r, bitsM l3 e3 = r := ⟨_, rfl⟩
  obtain ⟨⟨x3, l5, e5⟩, hb3⟩ : ∃ r, bitsM l4 e4 = r := ⟨_, rfl⟩
  have hT : takeM l e left n (fun s => decide (0 < m) && eqW t s) = ⟨u, ⟨x0, x1, x2, x3⟩, l5, if insW ⟨x0, x1, x2, x3⟩ (rangeM 0 n) = true then (if (decide (0 < m) && eqW t ⟨x0, x1, x2, x3⟩) = true then failM e5 5 else e5) else failM (if (decide (0 < m) && eqW t ⟨x0, x1, x2, x3⟩) = true then failM e5 5 else e5) 14⟩ := by
    unfold takeM
    simp only [ha, hb0, hb1, hb2, hb3]
  unfold TakeP
  rw [hT]
  have ck := Lib.hid (fun w => like_any t m ⟨x0, x1, x2, x3⟩ w)
  have cb := Lib.hid (fun w => below_any ⟨x0, x1, x2, x3⟩ n w)
  generalize (decide (0 < m) && eqW t ⟨x0, x1, x2, x3⟩) = v2 at *
  generalize insW ⟨x0, x1, x2, x3⟩ (rangeM 0 n) = v3 at *
  have hgl : g < w.heap.size := World.block_lt_of_cell? _ _ h.c1
  obtain ⟨w1, hw1⟩ : ∃ w1, (w.alloc (.cells #[.int .u64 (t.a0 : Int), .int .u64 (t.a1 : Int), .int .u64 (t.a2 : Int), .int .u64 (t.a3 : Int), .int .i64 m] 55)).alloc (.cells #[.int .u64 0, .int .u64 0, .int .u64 0, .int .u64 0, .int .i64 0] 55) = w1 := ⟨_, rfl⟩
  have hk1 : Kp (fun _ => False) w w1 := by rw [← hw1]; exact ((Kp.refl _ _).alloc _).alloc _
  have hs1 : w1.heap.size = w.heap.size + 1 + 1 := by rw [← hw1]; simp
  have z1 : ∀ j v, #[Value.int .u64 (t.a0 : Int), .int .u64 (t.a1 : Int), .int .u64 (t.a2 : Int), .int .u64 (t.a3 : Int), .int .i64 m][j]? = some v → w1.cell? ⟨w.heap.size, j, none⟩ = some v := fun j v hv => by
    rw [← hw1]
    exact (new_cells (w := w) ((Below.refl _ _).alloc (Nat.le_refl _) _) j v hv).1
  have z2 : ∀ j v, #[Value.int .u64 0, .int .u64 0, .int .u64 0, .int .u64 0, .int .i64 0][j]? = some v → w1.cell? ⟨w.heap.size + 1, j, none⟩ = some v ∧ w1.frozen? ⟨w.heap.size + 1, j, none⟩ = false := fun j v hv => by
    rw [← hw1]
    have := new_cells (w := w.alloc (.cells #[.int .u64 (t.a0 : Int), .int .u64 (t.a1 : Int), .int .u64 (t.a2 : Int), .int .u64 (t.a3 : Int), .int .i64 m] 55)) (cs := #[Value.int .u64 0, .int .u64 0, .int .u64 0, .int .u64 0, .int .i64 0]) (t := 55) (Below.refl _ _) j v hv
    simpa using this
  have hc1 := h.on hk1
  have ca := Lib.hid (cur_bits g e l w1 hc1)
  rw [ha] at ca
  have HE := Lib.hid hw1
  have HK1 := Lib.hid hk1
  subst he
  have q2 : ((u : Int) == 0) = false := by simp [hu]
  have q3 : (left : Int) < (u : Int) := by omega
  go_enter Try.func20, Try.ntmps20
  go_wp2_with fail
  refine ca.out.mono ?_
  rintro e' w2 ⟨rfl, hc2, hk2⟩
  have cE := Lib.hid (cur_err g _ _ w2 hc2)
  go_wp2_with fail
  refine cE.out.mono ?_
  rintro e' w' ⟨rfl, rfl⟩
  go_wp2_with fail
  refine (cur_fail g 0 5 l1 w2 hc2).mono ?_
  rintro e' w3 ⟨⟨_, rfl⟩, hc3, hk3⟩
  go_wp2_with fail
  have hk := ((HK1.out.mono fun _ _ h => h.elim).trans hk2).trans hk3
  have hmany : manyM u 0 left = (failM 0 5) := by simp [manyM, failM, hg]
  rw [hmany] at hb0
  have hkk : Kp (fun j => j = g) w1 w3 := hk2.trans hk3
  have hsz : w.heap.size + 1 + 1 ≤ w3.heap.size := by have := hk2.size; have := hk3.size; omega
  have TT : TkS w g w.heap.size w3.heap.size t m (w3.alloc (.cells #[.int .u64 0, .int .u64 0, .int .u64 0, .int .u64 0] 41)) l1 (failM 0 5) zW := by
    refine ⟨hc3.on ((Kp.refl (fun _ => False) _).alloc _), fun q hq => ?_, ?_, fun q hq => ?_, ?_, fun q hq => ?_, fun q hq => ?_, fun q hq => ?_, by omega, by omega, Nat.le_refl _, hk.alloc _⟩
    · rw [World.cell?_alloc_lt _ _ _ (by show w.heap.size < _; omega)]
      refine hkk.cellv (z1 q _ ?_) (by show ¬ w.heap.size = g; omega)
      match q, hq with
      | 0, _ => rfl
      | 1, _ => rfl
      | 2, _ => rfl
      | 3, _ => rfl
    · rw [World.cell?_alloc_lt _ _ _ (by show w.heap.size < _; omega)]
      exact hkk.cellv (z1 4 _ rfl) (by show ¬ w.heap.size = g; omega)
    · rw [World.cell?_alloc_lt _ _ _ (by show w.heap.size + 1 < _; omega)]
      refine hkk.cellv (z2 q _ ?_).1 (by show ¬ w.heap.size + 1 = g; omega)
      match q, hq with
      | 0, _ => rfl
      | 1, _ => rfl
      | 2, _ => rfl
      | 3, _ => rfl
    · rw [World.cell?_alloc_lt _ _ _ (by show w.heap.size + 1 < _; omega)]
      exact hkk.cellv (z2 4 _ rfl).1 (by show ¬ w.heap.size + 1 = g; omega)
    · have hfz : w1.frozen? ⟨w.heap.size + 1, q, none⟩ = false := by
        match q, hq with
        | 0, _ => exact (z2 0 _ rfl).2
        | 1, _ => exact (z2 1 _ rfl).2
        | 2, _ => exact (z2 2 _ rfl).2
        | 3, _ => exact (z2 3 _ rfl).2
        | 4, _ => exact (z2 4 _ rfl).2
      have hk9 := hkk.trans ((Kp.refl (fun j => j = g) _).alloc (.cells #[.int .u64 0, .int .u64 0, .int .u64 0, .int .u64 0] 41))
      exact (hk9.frozen (p := ⟨w.heap.size + 1, q, none⟩) (by show w.heap.size + 1 < _; omega) (by show ¬ w.heap.size + 1 = g; omega)).trans hfz
    · have := new_cells (w := w3) (cs := #[Value.int .u64 0, .int .u64 0, .int .u64 0, .int .u64 0]) (t := 41) (Below.refl _ _) q (.int .u64 0) (by match q, hq with
        | 0, _ => rfl
        | 1, _ => rfl
        | 2, _ => rfl
        | 3, _ => rfl)
      rw [this.1]
      match q, hq with
      | 0, _ => rfl
      | 1, _ => rfl
      | 2, _ => rfl
      | 3, _ => rfl
    · have := new_cells (w := w3) (cs := #[Value.int .u64 0, .int .u64 0, .int .u64 0, .int .u64 0]) (t := 41) (Below.refl _ _) q (.int .u64 0) (by match q, hq with
        | 0, _ => rfl
        | 1, _ => rfl
        | 2, _ => rfl
        | 3, _ => rfl)
      exact this.2
  obtain ⟨b, hbE⟩ : ∃ b, w3.heap.size = b := ⟨_, rfl⟩
  rw [hbE] at TT
  rw [hbE]
  obtain ⟨wx, hwE⟩ : ∃ W, w3.alloc (.cells #[.int .u64 0, .int .u64 0, .int .u64 0, .int .u64 0] 41) = W := ⟨_, rfl⟩
  rw [hwE] at TT
  rw [hwE]
  have T := Lib.hid TT
  clear TT hwE hbE hsz hkk hk
  clear z1 z2 hs1 hw1 hk1 HE HK1 hk2 hc1 hc2 ca cE hk3 hc3
  refine wp_loop_rounds 5 ?_
  rw [rounds_succ]
  have cb0 := Lib.hid (cur_bits g (failM 0 5) l1 _ T.out.cur)
  rw [hb0] at cb0
  go_wp2_with fail
  refine cb0.out.mono ?_
  rintro e' W' ⟨rfl, hc, hk⟩
  have T' := Lib.hid (T.out.call hc hk)
  clear T cb0
  have a0 := T'.out.ac 0 (by omega)
  have f0 := T'.out.af 0 (by omega)
  have T := Lib.hid (T'.out.put 0 (by omega) x0)
  clear T' hc hk
  go_wp2_with fail
  obtain ⟨wy, hwE⟩ : ∃ W, W'.setCell ⟨b, 0, none⟩ (.int .u64 (x0 : Int)) = W := ⟨_, rfl⟩
  rw [hwE] at T
  rw [hwE]
  clear hwE a0 f0
  rw [rounds_succ]
  have cb1 := Lib.hid (cur_bits g e2 l2 _ T.out.cur)
  rw [hb1] at cb1
  go_wp2_with fail
  refine cb1.out.mono ?_
  rintro e' W' ⟨rfl, hc, hk⟩
  have T' := Lib.hid (T.out.call hc hk)
  clear T cb1
  have a1 := T'.out.ac 1 (by omega)
  have f1 := T'.out.af 1 (by omega)
  have T := Lib.hid (T'.out.put 1 (by omega) x1)
  clear T' hc hk
  go_wp2_with fail
  obtain ⟨wy, hwE⟩ : ∃ W, W'.setCell ⟨b, 1, none⟩ (.int .u64 (x1 : Int)) = W := ⟨_, rfl⟩
  rw [hwE] at T
  rw [hwE]
  clear hwE a1 f1
  rw [rounds_succ]
  have cb2 := Lib.hid (cur_bits g e3 l3 _ T.out.cur)
  rw [hb2] at cb2
  go_wp2_with fail
  refine cb2.out.mono ?_
  rintro e' W' ⟨rfl, hc, hk⟩
  have T' := Lib.hid (T.out.call hc hk)
  clear T cb2
  have a2 := T'.out.ac 2 (by omega)
  have f2 := T'.out.af 2 (by omega)
  have T := Lib.hid (T'.out.put 2 (by omega) x2)
  clear T' hc hk
  go_wp2_with fail
  obtain ⟨wy, hwE⟩ : ∃ W, W'.setCell ⟨b, 2, none⟩ (.int .u64 (x2 : Int)) = W := ⟨_, rfl⟩
  rw [hwE] at T
  rw [hwE]
  clear hwE a2 f2
  rw [rounds_succ]
  have cb3 := Lib.hid (cur_bits g e4 l4 _ T.out.cur)
  rw [hb3] at cb3
  go_wp2_with fail
  refine cb3.out.mono ?_
  rintro e' W' ⟨rfl, hc, hk⟩
  have T' := Lib.hid (T.out.call hc hk)
  clear T cb3
  have a3 := T'.out.ac 3 (by omega)
  have f3 := T'.out.af 3 (by omega)
  have T := Lib.hid (T'.out.put 3 (by omega) x3)
  clear T' hc hk
  go_wp2_with fail
  obtain ⟨wy, hwE⟩ : ∃ W, W'.setCell ⟨b, 3, none⟩ (.int .u64 (x3 : Int)) = W := ⟨_, rfl⟩
  rw [hwE] at T
  rw [hwE]
  clear hwE a3 f3
  have TS : Hid (TkS w g w.heap.size b t m wy l5 e5 ⟨x0, x1, x2, x3⟩) := T
  clear T
  have T := TS
  clear TS
  have a0 : wy.cell? ⟨b, 0, none⟩ = some (.int .u64 (x0 : Int)) := T.out.ac 0 (by omega)
  have a1 : wy.cell? ⟨b, 1, none⟩ = some (.int .u64 (x1 : Int)) := T.out.ac 1 (by omega)
  have a2 : wy.cell? ⟨b, 2, none⟩ = some (.int .u64 (x2 : Int)) := T.out.ac 2 (by omega)
  have a3 : wy.cell? ⟨b, 3, none⟩ = some (.int .u64 (x3 : Int)) := T.out.ac 3 (by omega)
  have t0 : wy.cell? ⟨w.heap.size, 0, none⟩ = some (.int .u64 (t.a0 : Int)) := T.out.tc 0 (by omega)
  have t1 : wy.cell? ⟨w.heap.size, 1, none⟩ = some (.int .u64 (t.a1 : Int)) := T.out.tc 1 (by omega)
  have t2 : wy.cell? ⟨w.heap.size, 2, none⟩ = some (.int .u64 (t.a2 : Int)) := T.out.tc 2 (by omega)
  have t3 : wy.cell? ⟨w.heap.size, 3, none⟩ = some (.int .u64 (t.a3 : Int)) := T.out.tc 3 (by omega)
  have t4 := T.out.tm
  rw [rounds_succ]
  go_wp2_with fail
  refine (ck.out _).mono ?_
  rintro e' wy ⟨rfl, hb⟩
  have T' := Lib.hid (T.out.on hb)
  clear T a0 a1 a2 a3 t0 t1 t2 t3 t4 hb ck
  have T := T'
  clear T'
  cases v2
  · skip
    have a0 : wy.cell? ⟨b, 0, none⟩ = some (.int .u64 (x0 : Int)) := T.out.ac 0 (by omega)
    have a1 : wy.cell? ⟨b, 1, none⟩ = some (.int .u64 (x1 : Int)) := T.out.ac 1 (by omega)
    have a2 : wy.cell? ⟨b, 2, none⟩ = some (.int .u64 (x2 : Int)) := T.out.ac 2 (by omega)
    have a3 : wy.cell? ⟨b, 3, none⟩ = some (.int .u64 (x3 : Int)) := T.out.ac 3 (by omega)
    go_wp2_with fail
    refine (cb.out _).mono ?_
    rintro e' wy ⟨rfl, hb⟩
    have T' := Lib.hid (T.out.on hb)
    clear T a0 a1 a2 a3 hb cb
    have T := T'
    clear T'
    cases v3
    · go_wp2_with fail
      refine (cur_fail g e5 14 l5 wy T.out.cur).mono ?_
      rintro e' wy ⟨⟨_, rfl⟩, hc, hk⟩
      have T' := Lib.hid (T.out.call hc hk)
      clear T hc hk
      have T := T'
      clear T'
      have r0 : wy.cell? ⟨w.heap.size + 1, 0, none⟩ = some (.int .u64 0) := T.out.rc 0 (by omega)
      have r1 : wy.cell? ⟨w.heap.size + 1, 1, none⟩ = some (.int .u64 0) := T.out.rc 1 (by omega)
      have r2 : wy.cell? ⟨w.heap.size + 1, 2, none⟩ = some (.int .u64 0) := T.out.rc 2 (by omega)
      have r3 : wy.cell? ⟨w.heap.size + 1, 3, none⟩ = some (.int .u64 0) := T.out.rc 3 (by omega)
      have r4 := T.out.rm
      have f0 := T.out.rf 0 (by omega)
      have f1 := T.out.rf 1 (by omega)
      have f2 := T.out.rf 2 (by omega)
      have f3 := T.out.rf 3 (by omega)
      have f4 := T.out.rf 4 (by omega)
      have a0 : wy.cell? ⟨b, 0, none⟩ = some (.int .u64 (x0 : Int)) := T.out.ac 0 (by omega)
      have a1 : wy.cell? ⟨b, 1, none⟩ = some (.int .u64 (x1 : Int)) := T.out.ac 1 (by omega)
      have a2 : wy.cell? ⟨b, 2, none⟩ = some (.int .u64 (x2 : Int)) := T.out.ac 2 (by omega)
      have a3 : wy.cell? ⟨b, 3, none⟩ = some (.int .u64 (x3 : Int)) := T.out.ac 3 (by omega)
      go_wp2_with fail
      have hg1 : g < w.heap.size + 1 := by have := T.out.hd; omega
      refine bodyPost_ret (v := cntW ⟨x0, x1, x2, x3⟩ (wrap64 (u : Int))) (by simp [results, Try.results20, go_sem, r0, r1, r2, r3, r4]) rfl ⟨rfl, ?_, ?_⟩
      · exact ((((T.out.cur.set ⟨w.heap.size + 1, 0, none⟩ hg1 _).set ⟨w.heap.size + 1, 1, none⟩ hg1 _).set ⟨w.heap.size + 1, 2, none⟩ hg1 _).set ⟨w.heap.size + 1, 3, none⟩ hg1 _).set ⟨w.heap.size + 1, 4, none⟩ hg1 _
      · have hn9 : w.heap.size + 1 < w.heap.size → (w.heap.size + 1 = g) := fun h => by omega
        exact ((((T.out.kp.setCell (p := ⟨w.heap.size + 1, 0, none⟩) hn9 _).setCell (p := ⟨w.heap.size + 1, 1, none⟩) hn9 _).setCell (p := ⟨w.heap.size + 1, 2, none⟩) hn9 _).setCell (p := ⟨w.heap.size + 1, 3, none⟩) hn9 _).setCell (p := ⟨w.heap.size + 1, 4, none⟩) hn9 _
    · skip
      have r0 : wy.cell? ⟨w.heap.size + 1, 0, none⟩ = some (.int .u64 0) := T.out.rc 0 (by omega)
      have r1 : wy.cell? ⟨w.heap.size + 1, 1, none⟩ = some (.int .u64 0) := T.out.rc 1 (by omega)
      have r2 : wy.cell? ⟨w.heap.size + 1, 2, none⟩ = some (.int .u64 0) := T.out.rc 2 (by omega)
      have r3 : wy.cell? ⟨w.heap.size + 1, 3, none⟩ = some (.int .u64 0) := T.out.rc 3 (by omega)
      have r4 := T.out.rm
      have f0 := T.out.rf 0 (by omega)
      have f1 := T.out.rf 1 (by omega)
      have f2 := T.out.rf 2 (by omega)
      have f3 := T.out.rf 3 (by omega)
      have f4 := T.out.rf 4 (by omega)
      have a0 : wy.cell? ⟨b, 0, none⟩ = some (.int .u64 (x0 : Int)) := T.out.ac 0 (by omega)
      have a1 : wy.cell? ⟨b, 1, none⟩ = some (.int .u64 (x1 : Int)) := T.out.ac 1 (by omega)
      have a2 : wy.cell? ⟨b, 2, none⟩ = some (.int .u64 (x2 : Int)) := T.out.ac 2 (by omega)
      have a3 : wy.cell? ⟨b, 3, none⟩ = some (.int .u64 (x3 : Int)) := T.out.ac 3 (by omega)
      go_wp2_with fail
      have hg1 : g < w.heap.size + 1 := by have := T.out.hd; omega
      refine bodyPost_ret (v := cntW ⟨x0, x1, x2, x3⟩ (wrap64 (u : Int))) (by simp [results, Try.results20, go_sem, r0, r1, r2, r3, r4]) rfl ⟨rfl, ?_, ?_⟩
      · exact ((((T.out.cur.set ⟨w.heap.size + 1, 0, none⟩ hg1 _).set ⟨w.heap.size + 1, 1, none⟩ hg1 _).set ⟨w.heap.size + 1, 2, none⟩ hg1 _).set ⟨w.heap.size + 1, 3, none⟩ hg1 _).set ⟨w.heap.size + 1, 4, none⟩ hg1 _
      · have hn9 : w.heap.size + 1 < w.heap.size → (w.heap.size + 1 = g) := fun h => by omega
        exact ((((T.out.kp.setCell (p := ⟨w.heap.size + 1, 0, none⟩) hn9 _).setCell (p := ⟨w.heap.size + 1, 1, none⟩) hn9 _).setCell (p := ⟨w.heap.size + 1, 2, none⟩) hn9 _).setCell (p := ⟨w.heap.size + 1, 3, none⟩) hn9 _).setCell (p := ⟨w.heap.size + 1, 4, none⟩) hn9 _
  · go_wp2_with fail
    refine (cur_fail g e5 5 l5 wy T.out.cur).mono ?_
    rintro e' wy ⟨⟨_, rfl⟩, hc, hk⟩
    have T' := Lib.hid (T.out.call hc hk)
    clear T hc hk
    have T := T'
    clear T'
    have a0 : wy.cell? ⟨b, 0, none⟩ = some (.int .u64 (x0 : Int)) := T.out.ac 0 (by omega)
    have a1 : wy.cell? ⟨b, 1, none⟩ = some (.int .u64 (x1 : Int)) := T.out.ac 1 (by omega)
    have a2 : wy.cell? ⟨b, 2, none⟩ = some (.int .u64 (x2 : Int)) := T.out.ac 2 (by omega)
    have a3 : wy.cell? ⟨b, 3, none⟩ = some (.int .u64 (x3 : Int)) := T.out.ac 3 (by omega)
    go_wp2_with fail
    refine (cb.out _).mono ?_
    rintro e' wy ⟨rfl, hb⟩
    have T' := Lib.hid (T.out.on hb)
    clear T a0 a1 a2 a3 hb cb
    have T := T'
    clear T'
    cases v3
    · go_wp2_with fail
      refine (cur_fail g (failM e5 5) 14 l5 wy T.out.cur).mono ?_
      rintro e' wy ⟨⟨_, rfl⟩, hc, hk⟩
      have T' := Lib.hid (T.out.call hc hk)
      clear T hc hk
      have T := T'
      clear T'
      have r0 : wy.cell? ⟨w.heap.size + 1, 0, none⟩ = some (.int .u64 0) := T.out.rc 0 (by omega)
      have r1 : wy.cell? ⟨w.heap.size + 1, 1, none⟩ = some (.int .u64 0) := T.out.rc 1 (by omega)
      have r2 : wy.cell? ⟨w.heap.size + 1, 2, none⟩ = some (.int .u64 0) := T.out.rc 2 (by omega)
      have r3 : wy.cell? ⟨w.heap.size + 1, 3, none⟩ = some (.int .u64 0) := T.out.rc 3 (by omega)
      have r4 := T.out.rm
      have f0 := T.out.rf 0 (by omega)
      have f1 := T.out.rf 1 (by omega)
      have f2 := T.out.rf 2 (by omega)
      have f3 := T.out.rf 3 (by omega)
      have f4 := T.out.rf 4 (by omega)
      have a0 : wy.cell? ⟨b, 0, none⟩ = some (.int .u64 (x0 : Int)) := T.out.ac 0 (by omega)
      have a1 : wy.cell? ⟨b, 1, none⟩ = some (.int .u64 (x1 : Int)) := T.out.ac 1 (by omega)
      have a2 : wy.cell? ⟨b, 2, none⟩ = some (.int .u64 (x2 : Int)) := T.out.ac 2 (by omega)
      have a3 : wy.cell? ⟨b, 3, none⟩ = some (.int .u64 (x3 : Int)) := T.out.ac 3 (by omega)
      go_wp2_with fail
      have hg1 : g < w.heap.size + 1 := by have := T.out.hd; omega
      refine bodyPost_ret (v := cntW ⟨x0, x1, x2, x3⟩ (wrap64 (u : Int))) (by simp [results, Try.results20, go_sem, r0, r1, r2, r3, r4]) rfl ⟨rfl, ?_, ?_⟩
      · exact ((((T.out.cur.set ⟨w.heap.size + 1, 0, none⟩ hg1 _).set ⟨w.heap.size + 1, 1, none⟩ hg1 _).set ⟨w.heap.size + 1, 2, none⟩ hg1 _).set ⟨w.heap.size + 1, 3, none⟩ hg1 _).set ⟨w.heap.size + 1, 4, none⟩ hg1 _
      · have hn9 : w.heap.size + 1 < w.heap.size → (w.heap.size + 1 = g) := fun h => by omega
        exact ((((T.out.kp.setCell (p := ⟨w.heap.size + 1, 0, none⟩) hn9 _).setCell (p := ⟨w.heap.size + 1, 1, none⟩) hn9 _).setCell (p := ⟨w.heap.size + 1, 2, none⟩) hn9 _).setCell (p := ⟨w.heap.size + 1, 3, none⟩) hn9 _).setCell (p := ⟨w.heap.size + 1, 4, none⟩) hn9 _
    · skip
      have r0 : wy.cell? ⟨w.heap.size + 1, 0, none⟩ = some (.int .u64 0) := T.out.rc 0 (by omega)
      have r1 : wy.cell? ⟨w.heap.size + 1, 1, none⟩ = some (.int .u64 0) := T.out.rc 1 (by omega)
      have r2 : wy.cell? ⟨w.heap.size + 1, 2, none⟩ = some (.int .u64 0) := T.out.rc 2 (by omega)
      have r3 : wy.cell? ⟨w.heap.size + 1, 3, none⟩ = some (.int .u64 0) := T.out.rc 3 (by omega)
      have r4 := T.out.rm
      have f0 := T.out.rf 0 (by omega)
      have f1 := T.out.rf 1 (by omega)
      have f2 := T.out.rf 2 (by omega)
      have f3 := T.out.rf 3 (by omega)
      have f4 := T.out.rf 4 (by omega)
      have a0 : wy.cell? ⟨b, 0, none⟩ = some (.int .u64 (x0 : Int)) := T.out.ac 0 (by omega)
      have a1 : wy.cell? ⟨b, 1, none⟩ = some (.int .u64 (x1 : Int)) := T.out.ac 1 (by omega)
      have a2 : wy.cell? ⟨b, 2, none⟩ = some (.int .u64 (x2 : Int)) := T.out.ac 2 (by omega)
      have a3 : wy.cell? ⟨b, 3, none⟩ = some (.int .u64 (x3 : Int)) := T.out.ac 3 (by omega)
      go_wp2_with fail
      have hg1 : g < w.heap.size + 1 := by have := T.out.hd; omega
      refine bodyPost_ret (v := cntW ⟨x0, x1, x2, x3⟩ (wrap64 (u : Int))) (by simp [results, Try.results20, go_sem, r0, r1, r2, r3, r4]) rfl ⟨rfl, ?_, ?_⟩
      · exact ((((T.out.cur.set ⟨w.heap.size + 1, 0, none⟩ hg1 _).set ⟨w.heap.size + 1, 1, none⟩ hg1 _).set ⟨w.heap.size + 1, 2, none⟩ hg1 _).set ⟨w.heap.size + 1, 3, none⟩ hg1 _).set ⟨w.heap.size + 1, 4, none⟩ hg1 _
      · have hn9 : w.heap.size + 1 < w.heap.size → (w.heap.size + 1 = g) := fun h => by omega
        exact ((((T.out.kp.setCell (p := ⟨w.heap.size + 1, 0, none⟩) hn9 _).setCell (p := ⟨w.heap.size + 1, 1, none⟩) hn9 _).setCell (p := ⟨w.heap.size + 1, 2, none⟩) hn9 _).setCell (p := ⟨w.heap.size + 1, 3, none⟩) hn9 _).setCell (p := ⟨w.heap.size + 1, 4, none⟩) hn9 _

set_option maxRecDepth 100000 in
set_option maxHeartbeats 8000000 in
theorem take_D (g e left : Nat) (l : List Nat) (n : Int) (t : W4) (m : Int) (w : World) (h : CurW w g l e) (hl : left ≤ 200) (u e1 : Nat) (l1 : List Nat) (ha : bitsM l e = (u, l1, e1)) (he : e1 = 0) (hu : ¬ u = 0) (hg : ¬ left < u) : TakeP g e left l n t m w := by
  have hbl := h.bytes
  have hu64 : u < 18446744073709551616 := by have := bitsM_lt (e := e) hbl; rw [ha] at this; exact this
  obtain ⟨⟨x0, l2, e2⟩, hb0⟩ : ∃ r, bitsM l1 (manyM u e1 left) = r := ⟨_, rfl⟩
  obtain ⟨⟨x1, l3, e3⟩, hb1⟩ : ∃ r, bitsM l2 e2 = r := ⟨_, rfl⟩
  obtain ⟨⟨x2, l4, e4⟩, hb2⟩ : ∃ r, bitsM l3 e3 = r := ⟨_, rfl⟩
  obtain ⟨⟨x3, l5, e5⟩, hb3⟩ : ∃ r, bitsM l4 e4 = r := ⟨_, rfl⟩
  have hT : takeM l e left n (fun s => decide (0 < m) && eqW t s) = ⟨u, ⟨x0, x1, x2, x3⟩, l5, if insW ⟨x0, x1, x2, x3⟩ (rangeM 0 n) = true then (if (decide (0 < m) && eqW t ⟨x0, x1, x2, x3⟩) = true then failM e5 5 else e5) else failM (if (decide (0 < m) && eqW t ⟨x0, x1, x2, x3⟩) = true then failM e5 5 else e5) 14⟩ := by
    unfold takeM
    simp only [ha, hb0, hb1, hb2, hb3]
  unfold TakeP
  rw [hT]
  have ck := Lib.hid (fun w => like_any t m ⟨x0, x1, x2, x3⟩ w)
  have cb := Lib.hid (fun w => below_any ⟨x0, x1, x2, x3⟩ n w)
  generalize (decide (0 < m) && eqW t ⟨x0, x1, x2, x3⟩) = v2 at *
  generalize insW ⟨x0, x1, x2, x3⟩ (rangeM 0 n) = v3 at *
  have hgl : g < w.heap.size := World.block_lt_of_cell? _ _ h.c1
  obtain ⟨w1, hw1⟩ : ∃ w1, (w.alloc (.cells #[.int .u64 (t.a0 : Int), .int .u64 (t.a1 : Int), .int .u64 (t.a2 : Int), .int .u64 (t.a3 : Int), .int .i64 m] 55)).alloc (.cells #[.int .u64 0, .int .u64 0, .int .u64 0, .int .u64 0, .int .i64 0] 55) = w1 := ⟨_, rfl⟩
  have hk1 : Kp (fun _ => False) w w1 := by rw [← hw1]; exact ((Kp.refl _ _).alloc _).alloc _
  have hs1 : w1.heap.size = w.heap.size + 1 + 1 := by rw [← hw1]; simp
  have z1 : ∀ j v, #[Value.int .u64 (t.a0 : Int), .int .u64 (t.a1 : Int), .int .u64 (t.a2 : Int), .int .u64 (t.a3 : Int), .int .i64 m][j]? = some v → w1.cell? ⟨w.heap.size, j, none⟩ = some v := fun j v hv => by
    rw [← hw1]
    exact (new_cells (w := w) ((Below.refl _ _).alloc (Nat.le_refl _) _) j v hv).1
  have z2 : ∀ j v, #[Value.int .u64 0, .int .u64 0, .int .u64 0, .int .u64 0, .int .i64 0][j]? = some v → w1.cell? ⟨w.heap.size + 1, j, none⟩ = some v ∧ w1.frozen? ⟨w.heap.size + 1, j, none⟩ = false := fun j v hv => by
    rw [← hw1]
    have := new_cells (w := w.alloc (.cells #[.int .u64 (t.a0 : Int), .int .u64 (t.a1 : Int), .int .u64 (t.a2 : Int), .int .u64 (t.a3 : Int), .int .i64 m] 55)) (cs := #[Value.int .u64 0, .int .u64 0, .int .u64 0, .int .u64 0, .int .i64 0]) (t := 55) (Below.refl _ _) j v hv
    simpa using this
  have hc1 := h.on hk1
  have ca := Lib.hid (cur_bits g e l w1 hc1)
  rw [ha] at ca
  have HE := Lib.hid hw1
  have HK1 := Lib.hid hk1
  subst he
  have q2 : ((u : Int) == 0) = false := by simp [hu]
  have q3 : ¬ (left : Int) < (u : Int) := by omega
  have HWR : Hid (wrap64 (u : Int) = u) := Lib.hid (by unfold wrap64; omega)
  go_enter Try.func20, Try.ntmps20
  go_wp2_with fail
  refine ca.out.mono ?_
  rintro e' w2 ⟨rfl, hc2, hk2⟩
  have cE := Lib.hid (cur_err g _ _ w2 hc2)
  go_wp2_with fail
  refine cE.out.mono ?_
  rintro e' w' ⟨rfl, rfl⟩
  go_wp2_with fail
  have hk := (HK1.out.mono fun _ _ h => h.elim).trans hk2
  have hmany : manyM u 0 left = 0 := by simp [manyM, hu, hg]
  rw [hmany] at hb0
  have hkk : Kp (fun j => j = g) w1 w2 := hk2
  have hsz : w.heap.size + 1 + 1 ≤ w2.heap.size := by have := hk2.size; omega
  have TT : TkS w g w.heap.size w2.heap.size t m (w2.alloc (.cells #[.int .u64 0, .int .u64 0, .int .u64 0, .int .u64 0] 41)) l1 0 zW := by
    refine ⟨hc2.on ((Kp.refl (fun _ => False) _).alloc _), fun q hq => ?_, ?_, fun q hq => ?_, ?_, fun q hq => ?_, fun q hq => ?_, fun q hq => ?_, by omega, by omega, Nat.le_refl _, hk.alloc _⟩
    · rw [World.cell?_alloc_lt _ _ _ (by show w.heap.size < _; omega)]
      refine hkk.cellv (z1 q _ ?_) (by show ¬ w.heap.size = g; omega)
      match q, hq with
      | 0, _ => rfl
      | 1, _ => rfl
      | 2, _ => rfl
      | 3, _ => rfl
    · rw [World.cell?_alloc_lt _ _ _ (by show w.heap.size < _; omega)]
      exact hkk.cellv (z1 4 _ rfl) (by show ¬ w.heap.size = g; omega)
    · rw [World.cell?_alloc_lt _ _ _ (by show w.heap.size + 1 < _; omega)]
      refine hkk.cellv (z2 q _ ?_).1 (by show ¬ w.heap.size + 1 = g; omega)
      match q, hq with
      | 0, _ => rfl
      | 1, _ => rfl
      | 2, _ => rfl
      | 3, _ => rfl
    · rw [World.cell?_alloc_lt _ _ _ (by show w.heap.size + 1 < _; omega)]
      exact hkk.cellv (z2 4 _ rfl).1 (by show ¬ w.heap.size + 1 = g; omega)
    · have hfz : w1.frozen? ⟨w.heap.size + 1, q, none⟩ = false := by
        match q, hq with
        | 0, _ => exact (z2 0 _ rfl).2
        | 1, _ => exact (z2 1 _ rfl).2
        | 2, _ => exact (z2 2 _ rfl).2
        | 3, _ => exact (z2 3 _ rfl).2
        | 4, _ => exact (z2 4 _ rfl).2
      have hk9 := hkk.trans ((Kp.refl (fun j => j = g) _).alloc (.cells #[.int .u64 0, .int .u64 0, .int .u64 0, .int .u64 0] 41))
      exact (hk9.frozen (p := ⟨w.heap.size + 1, q, none⟩) (by show w.heap.size + 1 < _; omega) (by show ¬ w.heap.size + 1 = g; omega)).trans hfz
    · have := new_cells (w := w2) (cs := #[Value.int .u64 0, .int .u64 0, .int .u64 0, .int .u64 0]) (t := 41) (Below.refl _ _) q (.int .u64 0) (by match q, hq with
        | 0, _ => rfl
        | 1, _ => rfl
        | 2, _ => rfl
        | 3, _ => rfl)
      rw [this.1]
      match q, hq with
      | 0, _ => rfl
      | 1, _ => rfl
      | 2, _ => rfl
      | 3, _ => rfl
    · have := new_cells (w := w2) (cs := #[Value.int .u64 0, .int .u64 0, .int .u64 0, .int .u64 0]) (t := 41) (Below.refl _ _) q (.int .u64 0) (by match q, hq with
        | 0, _ => rfl
        | 1, _ => rfl
        | 2, _ => rfl
        | 3, _ => rfl)
      exact this.2
  obtain ⟨b, hbE⟩ : ∃ b, w2.heap.size = b := ⟨_, rfl⟩
  rw [hbE] at TT
  rw [hbE]
  obtain ⟨wx, hwE⟩ : ∃ W, w2.alloc (.cells #[.int .u64 0, .int .u64 0, .int .u64 0, .int .u64 0] 41) = W := ⟨_, rfl⟩
  rw [hwE] at TT
  rw [hwE]
  have T := Lib.hid TT
  clear TT hwE hbE hsz hkk hk
  clear z1 z2 hs1 hw1 hk1 HE HK1 hk2 hc1 hc2 ca cE 
  refine wp_loop_rounds 5 ?_
  rw [rounds_succ]
  have cb0 := Lib.hid (cur_bits g 0 l1 _ T.out.cur)
  rw [hb0] at cb0
  go_wp2_with fail
  refine cb0.out.mono ?_
  rintro e' W' ⟨rfl, hc, hk⟩
  have T' := Lib.hid (T.out.call hc hk)
  clear T cb0
  have a0 := T'.out.ac 0 (by omega)
  have f0 := T'.out.af 0 (by omega)
  have T := Lib.hid (T'.out.put 0 (by omega) x0)
  clear T' hc hk
  go_wp2_with fail
  obtain ⟨wy, hwE⟩ : ∃ W, W'.setCell ⟨b, 0, none⟩ (.int .u64 (x0 : Int)) = W := ⟨_, rfl⟩
  rw [hwE] at T
  rw [hwE]
  clear hwE a0 f0
  rw [rounds_succ]
  have cb1 := Lib.hid (cur_bits g e2 l2 _ T.out.cur)
  rw [hb1] at cb1
  go_wp2_with fail
  refine cb1.out.mono ?_
  rintro e' W' ⟨rfl, hc, hk⟩
  have T' := Lib.hid (T.out.call hc hk)
  clear T cb1
  have a1 := T'.out.ac 1 (by omega)
  have f1 := T'.out.af 1 (by omega)
  have T := Lib.hid (T'.out.put 1 (by omega) x1)
  clear T' hc hk
  go_wp2_with fail
  obtain ⟨wy, hwE⟩ : ∃ W, W'.setCell ⟨b, 1, none⟩ (.int .u64 (x1 : Int)) = W := ⟨_, rfl⟩
  rw [hwE] at T
  rw [hwE]
  clear hwE a1 f1
  rw [rounds_succ]
  have cb2 := Lib.hid (cur_bits g e3 l3 _ T.out.cur)
  rw [hb2] at cb2
  go_wp2_with fail
  refine cb2.out.mono ?_
  rintro e' W' ⟨rfl, hc, hk⟩
  have T' := Lib.hid (T.out.call hc hk)
  clear T cb2
  have a2 := T'.out.ac 2 (by omega)
  have f2 := T'.out.af 2 (by omega)
  have T := Lib.hid (T'.out.put 2 (by omega) x2)
  clear T' hc hk
  go_wp2_with fail
  obtain ⟨wy, hwE⟩ : ∃ W, W'.setCell ⟨b, 2, none⟩ (.int .u64 (x2 : Int)) = W := ⟨_, rfl⟩
  rw [hwE] at T
  rw [hwE]
  clear hwE a2 f2
  rw [rounds_succ]
  have cb3 := Lib.hid (cur_bits g e4 l4 _ T.out.cur)
  rw [hb3] at cb3
  go_wp2_with fail
  refine cb3.out.mono ?_
  rintro e' W' ⟨rfl, hc, hk⟩
  have T' := Lib.hid (T.out.call hc hk)
  clear T cb3
  have a3 := T'.out.ac 3 (by omega)
  have f3 := T'.out.af 3 (by omega)
  have T := Lib.hid (T'.out.put 3 (by omega) x3)
  clear T' hc hk
  go_wp2_with fail
  obtain ⟨wy, hwE⟩ : ∃ W, W'.setCell ⟨b, 3, none⟩ (.int .u64 (x3 : Int)) = W := ⟨_, rfl⟩
  rw [hwE] at T
  rw [hwE]
  clear hwE a3 f3
  have TS : Hid (TkS w g w.heap.size b t m wy l5 e5 ⟨x0, x1, x2, x3⟩) := T
  clear T
  have T := TS
  clear TS
  have a0 : wy.cell? ⟨b, 0, none⟩ = some (.int .u64 (x0 : Int)) := T.out.ac 0 (by omega)
  have a1 : wy.cell? ⟨b, 1, none⟩ = some (.int .u64 (x1 : Int)) := T.out.ac 1 (by omega)
  have a2 : wy.cell? ⟨b, 2, none⟩ = some (.int .u64 (x2 : Int)) := T.out.ac 2 (by omega)
  have a3 : wy.cell? ⟨b, 3, none⟩ = some (.int .u64 (x3 : Int)) := T.out.ac 3 (by omega)
  have t0 : wy.cell? ⟨w.heap.size, 0, none⟩ = some (.int .u64 (t.a0 : Int)) := T.out.tc 0 (by omega)
  have t1 : wy.cell? ⟨w.heap.size, 1, none⟩ = some (.int .u64 (t.a1 : Int)) := T.out.tc 1 (by omega)
  have t2 : wy.cell? ⟨w.heap.size, 2, none⟩ = some (.int .u64 (t.a2 : Int)) := T.out.tc 2 (by omega)
  have t3 : wy.cell? ⟨w.heap.size, 3, none⟩ = some (.int .u64 (t.a3 : Int)) := T.out.tc 3 (by omega)
  have t4 := T.out.tm
  rw [rounds_succ]
  go_wp2_with fail
  refine (ck.out _).mono ?_
  rintro e' wy ⟨rfl, hb⟩
  have T' := Lib.hid (T.out.on hb)
  clear T a0 a1 a2 a3 t0 t1 t2 t3 t4 hb ck
  have T := T'
  clear T'
  cases v2
  · skip
    have a0 : wy.cell? ⟨b, 0, none⟩ = some (.int .u64 (x0 : Int)) := T.out.ac 0 (by omega)
    have a1 : wy.cell? ⟨b, 1, none⟩ = some (.int .u64 (x1 : Int)) := T.out.ac 1 (by omega)
    have a2 : wy.cell? ⟨b, 2, none⟩ = some (.int .u64 (x2 : Int)) := T.out.ac 2 (by omega)
    have a3 : wy.cell? ⟨b, 3, none⟩ = some (.int .u64 (x3 : Int)) := T.out.ac 3 (by omega)
    go_wp2_with fail
    refine (cb.out _).mono ?_
    rintro e' wy ⟨rfl, hb⟩
    have T' := Lib.hid (T.out.on hb)
    clear T a0 a1 a2 a3 hb cb
    have T := T'
    clear T'
    cases v3
    · go_wp2_with fail
      refine (cur_fail g e5 14 l5 wy T.out.cur).mono ?_
      rintro e' wy ⟨⟨_, rfl⟩, hc, hk⟩
      have T' := Lib.hid (T.out.call hc hk)
      clear T hc hk
      have T := T'
      clear T'
      have r0 : wy.cell? ⟨w.heap.size + 1, 0, none⟩ = some (.int .u64 0) := T.out.rc 0 (by omega)
      have r1 : wy.cell? ⟨w.heap.size + 1, 1, none⟩ = some (.int .u64 0) := T.out.rc 1 (by omega)
      have r2 : wy.cell? ⟨w.heap.size + 1, 2, none⟩ = some (.int .u64 0) := T.out.rc 2 (by omega)
      have r3 : wy.cell? ⟨w.heap.size + 1, 3, none⟩ = some (.int .u64 0) := T.out.rc 3 (by omega)
      have r4 := T.out.rm
      have f0 := T.out.rf 0 (by omega)
      have f1 := T.out.rf 1 (by omega)
      have f2 := T.out.rf 2 (by omega)
      have f3 := T.out.rf 3 (by omega)
      have f4 := T.out.rf 4 (by omega)
      have a0 : wy.cell? ⟨b, 0, none⟩ = some (.int .u64 (x0 : Int)) := T.out.ac 0 (by omega)
      have a1 : wy.cell? ⟨b, 1, none⟩ = some (.int .u64 (x1 : Int)) := T.out.ac 1 (by omega)
      have a2 : wy.cell? ⟨b, 2, none⟩ = some (.int .u64 (x2 : Int)) := T.out.ac 2 (by omega)
      have a3 : wy.cell? ⟨b, 3, none⟩ = some (.int .u64 (x3 : Int)) := T.out.ac 3 (by omega)
      go_wp2_with fail
      have hg1 : g < w.heap.size + 1 := by have := T.out.hd; omega
      refine bodyPost_ret (v := cntW ⟨x0, x1, x2, x3⟩ (wrap64 (u : Int))) (by simp [results, Try.results20, go_sem, r0, r1, r2, r3, r4, HWR.out]) rfl ⟨rfl, ?_, ?_⟩
      · exact ((((T.out.cur.set ⟨w.heap.size + 1, 0, none⟩ hg1 _).set ⟨w.heap.size + 1, 1, none⟩ hg1 _).set ⟨w.heap.size + 1, 2, none⟩ hg1 _).set ⟨w.heap.size + 1, 3, none⟩ hg1 _).set ⟨w.heap.size + 1, 4, none⟩ hg1 _
      · have hn9 : w.heap.size + 1 < w.heap.size → (w.heap.size + 1 = g) := fun h => by omega
        exact ((((T.out.kp.setCell (p := ⟨w.heap.size + 1, 0, none⟩) hn9 _).setCell (p := ⟨w.heap.size + 1, 1, none⟩) hn9 _).setCell (p := ⟨w.heap.size + 1, 2, none⟩) hn9 _).setCell (p := ⟨w.heap.size + 1, 3, none⟩) hn9 _).setCell (p := ⟨w.heap.size + 1, 4, none⟩) hn9 _
    · skip
      have r0 : wy.cell? ⟨w.heap.size + 1, 0, none⟩ = some (.int .u64 0) := T.out.rc 0 (by omega)
      have r1 : wy.cell? ⟨w.heap.size + 1, 1, none⟩ = some (.int .u64 0) := T.out.rc 1 (by omega)
      have r2 : wy.cell? ⟨w.heap.size + 1, 2, none⟩ = some (.int .u64 0) := T.out.rc 2 (by omega)
      have r3 : wy.cell? ⟨w.heap.size + 1, 3, none⟩ = some (.int .u64 0) := T.out.rc 3 (by omega)
      have r4 := T.out.rm
      have f0 := T.out.rf 0 (by omega)
      have f1 := T.out.rf 1 (by omega)
      have f2 := T.out.rf 2 (by omega)
      have f3 := T.out.rf 3 (by omega)
      have f4 := T.out.rf 4 (by omega)
      have a0 : wy.cell? ⟨b, 0, none⟩ = some (.int .u64 (x0 : Int)) := T.out.ac 0 (by omega)
      have a1 : wy.cell? ⟨b, 1, none⟩ = some (.int .u64 (x1 : Int)) := T.out.ac 1 (by omega)
      have a2 : wy.cell? ⟨b, 2, none⟩ = some (.int .u64 (x2 : Int)) := T.out.ac 2 (by omega)
      have a3 : wy.cell? ⟨b, 3, none⟩ = some (.int .u64 (x3 : Int)) := T.out.ac 3 (by omega)
      go_wp2_with fail
      have hg1 : g < w.heap.size + 1 := by have := T.out.hd; omega
      refine bodyPost_ret (v := cntW ⟨x0, x1, x2, x3⟩ (wrap64 (u : Int))) (by simp [results, Try.results20, go_sem, r0, r1, r2, r3, r4, HWR.out]) rfl ⟨rfl, ?_, ?_⟩
      · exact ((((T.out.cur.set ⟨w.heap.size + 1, 0, none⟩ hg1 _).set ⟨w.heap.size + 1, 1, none⟩ hg1 _).set ⟨w.heap.size + 1, 2, none⟩ hg1 _).set ⟨w.heap.size + 1, 3, none⟩ hg1 _).set ⟨w.heap.size + 1, 4, none⟩ hg1 _
      · have hn9 : w.heap.size + 1 < w.heap.size → (w.heap.size + 1 = g) := fun h => by omega
        exact ((((T.out.kp.setCell (p := ⟨w.heap.size + 1, 0, none⟩) hn9 _).setCell (p := ⟨w.heap.size + 1, 1, none⟩) hn9 _).setCell (p := ⟨w.heap.size + 1, 2, none⟩) hn9 _).setCell (p := ⟨w.heap.size + 1, 3, none⟩) hn9 _).setCell (p := ⟨w.heap.size + 1, 4, none⟩) hn9 _
  · go_wp2_with fail
    refine (cur_fail g e5 5 l5 wy T.out.cur).mono ?_
    rintro e' wy ⟨⟨_, rfl⟩, hc, hk⟩
    have T' := Lib.hid (T.out.call hc hk)
    clear T hc hk
    have T := T'
    clear T'
    have a0 : wy.cell? ⟨b, 0, none⟩ = some (.int .u64 (x0 : Int)) := T.out.ac 0 (by omega)
    have a1 : wy.cell? ⟨b, 1, none⟩ = some (.int .u64 (x1 : Int)) := T.out.ac 1 (by omega)
    have a2 : wy.cell? ⟨b, 2, none⟩ = some (.int .u64 (x2 : Int)) := T.out.ac 2 (by omega)
    have a3 : wy.cell? ⟨b, 3, none⟩ = some (.int .u64 (x3 : Int)) := T.out.ac 3 (by omega)
    go_wp2_with fail
    refine (cb.out _).mono ?_
    rintro e' wy ⟨rfl, hb⟩
    have T' := Lib.hid (T.out.on hb)
    clear T a0 a1 a2 a3 hb cb
    have T := T'
    clear T'
    cases v3
    · go_wp2_with fail
      refine (cur_fail g (failM e5 5) 14 l5 wy T.out.cur).mono ?_
      rintro e' wy ⟨⟨_, rfl⟩, hc, hk⟩
      have T' := Lib.hid (T.out.call hc hk)
      clear T hc hk
      have T := T'
      clear T'
      have r0 : wy.cell? ⟨w.heap.size + 1, 0, none⟩ = some (.int .u64 0) := T.out.rc 0 (by omega)
      have r1 : wy.cell? ⟨w.heap.size + 1, 1, none⟩ = some (.int .u64 0) := T.out.rc 1 (by omega)
      have r2 : wy.cell? ⟨w.heap.size + 1, 2, none⟩ = some (.int .u64 0) := T.out.rc 2 (by omega)
      have r3 : wy.cell? ⟨w.heap.size + 1, 3, none⟩ = some (.int .u64 0) := T.out.rc 3 (by omega)
      have r4 := T.out.rm
      have f0 := T.out.rf 0 (by omega)
      have f1 := T.out.rf 1 (by omega)
      have f2 := T.out.rf 2 (by omega)
      have f3 := T.out.rf 3 (by omega)
      have f4 := T.out.rf 4 (by omega)
      have a0 : wy.cell? ⟨b, 0, none⟩ = some (.int .u64 (x0 : Int)) := T.out.ac 0 (by omega)
      have a1 : wy.cell? ⟨b, 1, none⟩ = some (.int .u64 (x1 : Int)) := T.out.ac 1 (by omega)
      have a2 : wy.cell? ⟨b, 2, none⟩ = some (.int .u64 (x2 : Int)) := T.out.ac 2 (by omega)
      have a3 : wy.cell? ⟨b, 3, none⟩ = some (.int .u64 (x3 : Int)) := T.out.ac 3 (by omega)
      go_wp2_with fail
      have hg1 : g < w.heap.size + 1 := by have := T.out.hd; omega
      refine bodyPost_ret (v := cntW ⟨x0, x1, x2, x3⟩ (wrap64 (u : Int))) (by simp [results, Try.results20, go_sem, r0, r1, r2, r3, r4, HWR.out]) rfl ⟨rfl, ?_, ?_⟩
      · exact ((((T.out.cur.set ⟨w.heap.size + 1, 0, none⟩ hg1 _).set ⟨w.heap.size + 1, 1, none⟩ hg1 _).set ⟨w.heap.size + 1, 2, none⟩ hg1 _).set ⟨w.heap.size + 1, 3, none⟩ hg1 _).set ⟨w.heap.size + 1, 4, none⟩ hg1 _
      · have hn9 : w.heap.size + 1 < w.heap.size → (w.heap.size + 1 = g) := fun h => by omega
        exact ((((T.out.kp.setCell (p := ⟨w.heap.size + 1, 0, none⟩) hn9 _).setCell (p := ⟨w.heap.size + 1, 1, none⟩) hn9 _).setCell (p := ⟨w.heap.size + 1, 2, none⟩) hn9 _).setCell (p := ⟨w.heap.size + 1, 3, none⟩) hn9 _).setCell (p := ⟨w.heap.size + 1, 4, none⟩) hn9 _
    · skip
      have r0 : wy.cell? ⟨w.heap.size + 1, 0, none⟩ = some (.int .u64 0) := T.out.rc 0 (by omega)
      have r1 : wy.cell? ⟨w.heap.size + 1, 1, none⟩ = some (.int .u64 0) := T.out.rc 1 (by omega)
      have r2 : wy.cell? ⟨w.heap.size + 1, 2, none⟩ = some (.int .u64 0) := T.out.rc 2 (by omega)
      have r3 : wy.cell? ⟨w.heap.size + 1, 3, none⟩ = some (.int .u64 0) := T.out.rc 3 (by omega)
      have r4 := T.out.rm
      have f0 := T.out.rf 0 (by omega)
      have f1 := T.out.rf 1 (by omega)
      have f2 := T.out.rf 2 (by omega)
      have f3 := T.out.rf 3 (by omega)
      have f4 := T.out.rf 4 (by omega)
      have a0 : wy.cell? ⟨b, 0, none⟩ = some (.int .u64 (x0 : Int)) := T.out.ac 0 (by omega)
      have a1 : wy.cell? ⟨b, 1, none⟩ = some (.int .u64 (x1 : Int)) := T.out.ac 1 (by omega)
      have a2 : wy.cell? ⟨b, 2, none⟩ = some (.int .u64 (x2 : Int)) := T.out.ac 2 (by omega)
      have a3 : wy.cell? ⟨b, 3, none⟩ = some (.int .u64 (x3 : Int)) := T.out.ac 3 (by omega)
      go_wp2_with fail
      have hg1 : g < w.heap.size + 1 := by have := T.out.hd; omega
      refine bodyPost_ret (v := cntW ⟨x0, x1, x2, x3⟩ (wrap64 (u : Int))) (by simp [results, Try.results20, go_sem, r0, r1, r2, r3, r4, HWR.out]) rfl ⟨rfl, ?_, ?_⟩
      · exact ((((T.out.cur.set ⟨w.heap.size + 1, 0, none⟩ hg1 _).set ⟨w.heap.size + 1, 1, none⟩ hg1 _).set ⟨w.heap.size + 1, 2, none⟩ hg1 _).set ⟨w.heap.size + 1, 3, none⟩ hg1 _).set ⟨w.heap.size + 1, 4, none⟩ hg1 _
      · have hn9 : w.heap.size + 1 < w.heap.size → (w.heap.size + 1 = g) := fun h => by omega
        exact ((((T.out.kp.setCell (p := ⟨w.heap.size + 1, 0, none⟩) hn9 _).setCell (p := ⟨w.heap.size + 1, 1, none⟩) hn9 _).setCell (p := ⟨w.heap.size + 1, 2, none⟩) hn9 _).setCell (p := ⟨w.heap.size + 1, 3, none⟩) hn9 _).setCell (p := ⟨w.heap.size + 1, 4, none⟩) hn9 _

theorem take_any (g e left : Nat) (l : List Nat) (n : Int) (t : W4) (m : Int) (w : World) (h : CurW w g l e) (hl : left ≤ 200) : TakeP g e left l n t m w := by
  obtain ⟨⟨u, l1, e1⟩, ha⟩ : ∃ r, bitsM l e = r := ⟨_, rfl⟩
  by_cases he : e1 = 0
  · by_cases hu : u = 0
    · exact take_B g e left l n t m w h hl u e1 l1 ha he hu
    · by_cases hg : left < u
      · exact take_C g e left l n t m w h hl u e1 l1 ha he hu hg
      · exact take_D g e left l n t m w h hl u e1 l1 ha he hu hg
  · exact take_A g e left l n t m w h hl u e1 l1 ha he
end Go.Proofs.Ytiblcodlaeijfaa
