/-
  The flat stack: the value on top, another value at a place, one more.
-/
import Derived.Test.YthddhipmmhihlaaSp1
namespace Go.Proofs.Ythddhipmmhihlaa
open Go.RowKit
set_option linter.unusedSimpArgs false
set_option linter.unusedVariables false
attribute [local go_sem] run_store_cplx
def SkTo (w : World) (g : Nat) (A : Option Addr) (vs' : List DV) (w' : World) : Prop := ∃ A' c', SkW w' g A' c' vs' ∧ Kp (Bk g A) w w' ∧ ∀ j, Bk g A' j → Bk g A j ∨ w.heap.size ≤ j
set_option maxRecDepth 100000 in
set_option maxHeartbeats 2000000 in
theorem pop_any (g c : Nat) (A : Option Addr) (vs : List DV) (w : World) (h : SkW w g A c vs) (hn : vs.length ≤ 1000) :
    Calls Try.prog 24 #[.pointer (some ⟨g, 0, none⟩)] w fun e w' => e = .returned (aggV (getM vs ((vs.length : Int) - 1))) ∧ SkTo w g A (vs.take (vs.length - 1)) w' := by
  obtain ⟨w1, hw1⟩ : ∃ w1, w.alloc (.cells #[.int .i64 0, .int .i64 0, .complex .f64 0 0] 45) = w1 := ⟨_, rfl⟩
  have hb1 : Below w.heap.size w w1 := by rw [← hw1]; exact (Below.refl _ _).alloc (Nat.le_refl _) _
  have z : ∀ j u, #[Value.int .i64 0, .int .i64 0, .complex .f64 0 0][j]? = some u → w1.cell? ⟨w.heap.size, j, none⟩ = some u ∧ w1.frozen? ⟨w.heap.size, j, none⟩ = false := fun j u hu => by
    rw [← hw1]
    exact new_cells (Below.refl _ _) j u hu
  have hk1 : Kp (fun _ => False) w w1 := (Kp.refl _ _).ofBelow hb1
  have h1 := h.on hk1
  have cl := Lib.hid (len_box g A vs.length c w1 h1.c0 hn)
  have cg := Lib.hid (get_any g c A vs ((vs.length : Int) - 1) w1 h1 hn)
  obtain ⟨⟨vk, vn, vx, vy⟩, hv⟩ : ∃ v, getM vs ((vs.length : Int) - 1) = v := ⟨_, rfl⟩
  rw [hv] at cg ⊢
  have HL : Hid (∀ w2 : World, Kp (fun _ => False) w1 w2 → Calls Try.prog 15 #[.pointer (some ⟨g, 0, none⟩)] w2 fun e w' => e = .returned (.int .i64 (vs.length : Int)) ∧ w2 = w') := Lib.hid fun w2 hk => len_box g A vs.length c w2 (h1.on hk).c0 hn
  have HC : Hid (∀ w2 : World, Kp (fun _ => False) w1 w2 → Calls Try.prog 25 #[.pointer (some ⟨g, 0, none⟩), .int .i64 ((vs.length : Int) - 1)] w2 fun e w' => (∃ v, e = .returned v) ∧ (∃ c', SkW w' g A c' (vs.take (vs.length - 1))) ∧ Kp (fun j => j = g) w2 w') := Lib.hid fun w2 hk => by
    have := cut_any g c A vs ((vs.length : Int) - 1) w2 (h1.on hk) hn
    rw [show (max ((vs.length : Int) - 1) 0).toNat = vs.length - 1 by omega] at this
    exact this
  have HB : Hid (∀ j, Bk g A j → j < w.heap.size) := Lib.hid fun j hj => h.blk_lt hj
  have hgl : g < w.heap.size := h.blk_lt (.inl rfl)
  have HZ := Lib.hid z
  have HK1 := Lib.hid hk1
  have HE := Lib.hid hw1
  have hs1 : w1.heap.size = w.heap.size + 1 := by rw [← hw1]; simp
  have HS1 := Lib.hid hs1
  generalize vs.take (vs.length - 1) = vs' at *
  generalize vs.length = n at *
  clear h h1 hv z hb1 hk1 hw1 hs1
  go_enter Try.func24, Try.ntmps24
  go_wp2_with fail
  rw [HE.out]
  refine cl.out.mono ?_
  rintro e w' ⟨rfl, rfl⟩
  go_wp2_with fail
  refine cg.out.mono ?_
  rintro e w2 ⟨rfl, hb2⟩
  obtain ⟨w3, hw3⟩ : ∃ w3, w2.alloc (.cells #[.int .i64 vk, .int .i64 vn, .complex .f64 vx vy] 45) = w3 := ⟨_, rfl⟩
  have hk12 : Kp (fun _ => False) w1 w2 := (Kp.refl _ _).ofBelow hb2
  have hk13 : Kp (fun _ => False) w1 w3 := by rw [← hw3]; exact hk12.alloc _
  have y : ∀ j u, #[Value.int .i64 vk, .int .i64 vn, .complex .f64 vx vy][j]? = some u → w3.cell? ⟨w2.heap.size, j, none⟩ = some u := fun j u hu => by
    rw [← hw3]
    exact (new_cells (Below.refl _ _) j u hu).1
  have HK13 := Lib.hid hk13
  have HY := Lib.hid y
  have HE3 := Lib.hid hw3
  have hs12 := hk12.size
  have HS2 : Hid (w1.heap.size ≤ w2.heap.size) := Lib.hid hs12
  clear hb2 hk12 hk13 y hw3 hs12
  unfold aggV
  go_wp2_with fail
  rw [HE3.out]
  refine (HL.out _ HK13.out).mono ?_
  rintro e w' ⟨rfl, rfl⟩
  go_wp2_with fail
  refine (HC.out _ HK13.out).mono ?_
  rintro e w4 ⟨⟨v4, rfl⟩, hsk, hk4⟩
  have n1 : ¬ w2.heap.size = g := by have := HS2.out; have := HS1.out; omega
  have n0 : ¬ w.heap.size = g := by omega
  have y0 := hk4.cellv (HY.out 0 _ rfl) n1
  have y1 := hk4.cellv (HY.out 1 _ rfl) n1
  have y2 := hk4.cellv (HY.out 2 _ rfl) n1
  have x0 := hk4.cellv (HK13.out.cellv (HZ.out 0 _ rfl).1 id) n0
  have x1 := hk4.cellv (HK13.out.cellv (HZ.out 1 _ rfl).1 id) n0
  have x2 := hk4.cellv (HK13.out.cellv (HZ.out 2 _ rfl).1 id) n0
  have hl1 : w.heap.size < w1.heap.size := by have := HS1.out; omega
  have hl3 : w.heap.size < w3.heap.size := by have := HK13.out.size; omega
  have f0 : w4.frozen? ⟨w.heap.size, 0, none⟩ = false := (hk4.frozen (p := ⟨w.heap.size, 0, none⟩) hl3 n0).trans ((HK13.out.frozen (p := ⟨w.heap.size, 0, none⟩) hl1 id).trans (HZ.out 0 _ rfl).2)
  have f1 : w4.frozen? ⟨w.heap.size, 1, none⟩ = false := (hk4.frozen (p := ⟨w.heap.size, 1, none⟩) hl3 n0).trans ((HK13.out.frozen (p := ⟨w.heap.size, 1, none⟩) hl1 id).trans (HZ.out 1 _ rfl).2)
  have f2 : w4.frozen? ⟨w.heap.size, 2, none⟩ = false := (hk4.frozen (p := ⟨w.heap.size, 2, none⟩) hl3 n0).trans ((HK13.out.frozen (p := ⟨w.heap.size, 2, none⟩) hl1 id).trans (HZ.out 2 _ rfl).2)
  have F : Hid (∀ w5, Kp (fun j => j = w.heap.size) w4 w5 → SkTo w g A vs' w5) := Lib.hid fun w5 hk5 => by
    obtain ⟨c', hsk⟩ := hsk
    refine ⟨A, c', hsk.kpd hk5 (fun j hj e => by have := HB.out j hj; omega), ?_, fun j hj => .inl hj⟩
    have k14 : Kp (Bk g A) w w4 := ((HK1.out.mono (T := Bk g A) fun _ _ h => h.elim).trans (HK13.out.mono fun _ _ h => h.elim)).trans (hk4.mono fun j _ e => .inl e)
    exact k14.trans' hk5 fun j hj hh => hh.elim id fun e => absurd hj (by omega)
  clear hsk hk4 n1 hl1 hl3
  go_wp2_with fail
  exact bodyPost_ret (v := vV vk vn vx vy) (by simp [results, Try.results24, go_sem, x0, x1, x2]) rfl ⟨rfl, F.out _ ((((Kp.refl (fun j => j = w.heap.size) w4).setCell (p := ⟨w.heap.size, 0, none⟩) (fun _ => rfl) _).setCell (p := ⟨w.heap.size, 1, none⟩) (fun _ => rfl) _).setCell (p := ⟨w.heap.size, 2, none⟩) (fun _ => rfl) _)⟩
theorem flat_set3 : ∀ (l : List DV) (i : Nat) (v : DV), i < l.length → (l.set i v).flatMap cellsV = (l.flatMap cellsV).take (i * 3) ++ cellsV v ++ (l.flatMap cellsV).drop ((i + 1) * 3) := fun l i v hi => by
  rw [← flatMap_take (sz := 3) cellsV (fun _ => rfl), ← flatMap_drop (sz := 3) cellsV (fun _ => rfl), List.set_eq_take_append_cons_drop, if_pos hi, List.flatMap_append, List.flatMap_cons, List.append_assoc]
theorem RowF.store3 {w : World} {base r n c i : Nat} {vs : List DV} {v : DV} (h : RowF w base 45 3 (some ⟨r, 0, none⟩) n c (vs.flatMap cellsV)) (hl : vs.length = n) (hi : i < n) : RowF (w.setCells r (i * 3) (cellsV v)) base 45 3 (some ⟨r, 0, none⟩) n c ((vs.set i v).flatMap cellsV) := by
  obtain ⟨h0, h1, h2, h3⟩ := h
  obtain ⟨cur, hb, hh, ht, hc⟩ : ∃ cur, base ≤ r ∧ w.heap[r]? = some (.cells cur 45 (0, 0)) ∧ cur.toList.take (n * 3) = vs.flatMap cellsV ∧ (n < c → cur.size = c * 3) := by
    rcases h3 with ⟨e, _⟩ | ⟨r', cur, e, a, b, c', d⟩
    · cases e
    · injection e with e; injection e with e; subst e; exact ⟨cur, a, b, c', d⟩
  obtain ⟨cur', hh', hs', hj'⟩ := heap_setCells (cellsV v) (i * 3) w cur hh
  have hcs : n * 3 ≤ cur.size := by
    have := congrArg List.length ht
    rw [h0, List.length_take] at this
    simp at this
    omega
  have hfl : ((vs.set i v).flatMap cellsV).length = n * 3 := by rw [flatMap_len (sz := 3) cellsV (fun _ => rfl)]; simp [hl]
  refine ⟨hfl, h1, h2, .inr ⟨r, cur', rfl, hb, hh', ?_, fun hlt => by rw [hs']; exact hc hlt⟩⟩
  rw [flat_set3 vs i v (by omega)]
  have hlen3 : (cellsV v).length = 3 := rfl
  apply List.ext_getElem?
  intro j
  have e2 : cur'.toList[j]? = cur'[j]? := by simp
  have e1 : (vs.flatMap cellsV)[j]? = if j < n * 3 then cur[j]? else none := by
    rw [← ht, List.getElem?_take]
    split <;> simp
  by_cases hj : j < n * 3
  · rw [List.getElem?_take, if_pos hj, e2, hj' j, hlen3]
    by_cases a1 : j < i * 3
    · rw [if_neg (by omega), List.append_assoc, List.getElem?_append_left (by rw [List.length_take, h0]; omega), List.getElem?_take, if_pos a1, e1, if_pos hj]
    · by_cases a2 : j < i * 3 + 3
      · rw [if_pos (by omega), List.append_assoc, List.getElem?_append_right (by rw [List.length_take, h0]; omega), List.length_take, h0, List.getElem?_append_left (by rw [hlen3]; omega)]
        congr 1
        omega
      · rw [if_neg (by omega), List.getElem?_append_right (by simp [h0, hlen3]; omega), List.getElem?_drop]
        have e3 : (i + 1) * 3 + (j - ((vs.flatMap cellsV).take (i * 3) ++ cellsV v).length) = j := by simp [h0, hlen3]; omega
        rw [e3, e1, if_pos hj]
  · rw [List.getElem?_take, if_neg hj]
    symm
    apply List.getElem?_eq_none
    simp [h0, hlen3]
    omega
set_option maxRecDepth 100000 in
theorem set_out (g n c : Nat) (A : Option Addr) (i : Int) (v : DV) (w : World) (h : w.cell? ⟨g, 0, none⟩ = some (.slice A n c)) (hn : n ≤ 1000) (hi : ¬ (0 ≤ i ∧ i < (n : Int))) : Calls Try.prog 26 #[.pointer (some ⟨g, 0, none⟩), .int .i64 i, aggV v] w fun e w' => e = .returned (.bool false) ∧ Below w.heap.size w w' := by
  obtain ⟨vk, vn, vx, vy⟩ := v
  show Calls _ _ #[_, _, vV vk vn vx vy] w _
  have c1 : ∀ w' : World, Below w.heap.size w w' → Hid (Calls Try.prog 32 #[.pointer (some ⟨g, 0, none⟩), .int .i64 i] w' fun e w'' => e = .returned (.bool false) ∧ w' = w'') := fun w' hw => by
    have := has_box g A n c i w' ((hw.cell (World.block_lt_of_cell? _ _ h)).trans h) hn
    rw [decide_eq_false hi] at this
    exact this
  clear h hi
  go_enter Try.func26, Try.ntmps26
  go_wp2_with fail
  refine Calls.mono (c1 _ ((Below.refl _ _).alloc (Nat.le_refl _) _)).out ?_
  rintro e w' ⟨rfl, rfl⟩
  go_wp2_with fail
  go_ret
  exact ⟨rfl, (Below.refl _ _).alloc (Nat.le_refl _) _⟩
set_option maxRecDepth 100000 in
set_option maxHeartbeats 2000000 in
theorem set_in (g c r : Nat) (vs : List DV) (i : Nat) (v : DV) (w : World) (h : SkW w g (some ⟨r, 0, none⟩) c vs) (hn : vs.length ≤ 1000) (hi : i < vs.length) : Calls Try.prog 26 #[.pointer (some ⟨g, 0, none⟩), .int .i64 i, aggV v] w fun e w' => e = .returned (.bool true) ∧ SkTo w g (some ⟨r, 0, none⟩) (vs.set i v) w' := by
  obtain ⟨vk, vn, vx, vy⟩ := v
  show Calls _ _ #[_, _, vV vk vn vx vy] w _
  obtain ⟨w1, hw1⟩ : ∃ w1, w.alloc (.cells #[.int .i64 vk, .int .i64 vn, .complex .f64 vx vy] 45) = w1 := ⟨_, rfl⟩
  have hk1 : Kp (fun _ => False) w w1 := by rw [← hw1]; exact (Kp.refl _ _).alloc _
  have h1 := h.on hk1
  have z : ∀ j u, #[Value.int .i64 vk, .int .i64 vn, .complex .f64 vx vy][j]? = some u → w1.cell? ⟨w.heap.size, j, none⟩ = some u := fun j u hu => by
    rw [← hw1]
    exact (new_cells (Below.refl _ _) j u hu).1
  have c1 : Hid (Calls Try.prog 32 #[.pointer (some ⟨g, 0, none⟩), .int .i64 i] w1 fun e w'' => e = .returned (.bool true) ∧ w1 = w'') := Lib.hid (by
    have := has_box g _ vs.length c i w1 h1.c0 hn
    rw [decide_eq_true (by omega)] at this
    exact this)
  obtain ⟨b, off, v0, e, hb, hx, p0, p1, p2⟩ := slv_at (h1.sl hn) hi
  simp at e
  obtain ⟨rfl, rfl⟩ := e
  simp only [Nat.zero_add] at p0 p1 p2
  have hfz := h1.row.cells.2.2.2
  have hrg := h1.ne
  have hrl : r < w.heap.size := h.blk_lt (.inr rfl)
  have HQ : Hid (∀ W : World, Kp (fun j => j = r) w1 W → W.cell? ⟨g, 0, none⟩ = some (.slice (some ⟨r, 0, none⟩) vs.length c) ∧ W.cell? ⟨w.heap.size, 0, none⟩ = some (.int .i64 vk) ∧ W.cell? ⟨w.heap.size, 1, none⟩ = some (.int .i64 vn) ∧ W.cell? ⟨w.heap.size, 2, none⟩ = some (.complex .f64 vx vy)) := Lib.hid fun W hW => ⟨hW.cellv h1.c0 (fun e => hrg e.symm), hW.cellv (z 0 _ rfl) (show ¬ w.heap.size = r by omega), hW.cellv (z 1 _ rfl) (show ¬ w.heap.size = r by omega), hW.cellv (z 2 _ rfl) (show ¬ w.heap.size = r by omega)⟩
  have F : Hid (SkTo w g (some ⟨r, 0, none⟩) (vs.set i ⟨vk, vn, vx, vy⟩) (w1.drew.setCells r (i * 3) [.int .i64 vk, .int .i64 vn, .complex .f64 vx vy])) := Lib.hid (by
    have hd : SkW w1.drew g (some ⟨r, 0, none⟩) c vs := h1.on ((Kp.refl _ _).drew)
    have hks : Kp (fun j => j = r) w1.drew (w1.drew.setCells r (i * 3) [.int .i64 vk, .int .i64 vn, .complex .f64 vx vy]) := (Kp.refl (fun j => j = r) w1.drew).setCells (fun _ => rfl) _ _
    refine ⟨some ⟨r, 0, none⟩, c, ⟨?_, ?_, ?_⟩, ?_, fun j hj => .inl hj⟩
    · rw [List.length_set]; exact hks.cellv hd.c0 (fun e => hrg e.symm)
    · exact (hks.frozen (World.block_lt_of_cell? _ _ hd.c0) (fun e => hrg e.symm)).trans hd.f0
    · rw [List.length_set]; exact hd.row.store3 (v := ⟨vk, vn, vx, vy⟩) rfl hi
    · exact ((hk1.mono (T := Bk g (some ⟨r, 0, none⟩)) fun _ _ h => h.elim).drew).trans (hks.mono fun j _ e => .inr (by rw [e])))
  have HE := Lib.hid hw1
  have q0 : w1.cell? ⟨r, i * 3, none⟩ = some (.int .i64 v0.k) := p0
  have q1 := p1
  have q2 := p2
  have f0 := hfz (i * 3)
  have f1 := hfz (i * 3 + 1)
  have f2 := hfz (i * 3 + 2)
  have hin : (i : Int) < vs.length := by omega
  obtain ⟨u0, u1, u2, u3⟩ := v0
  simp only at q0 q1 q2
  generalize vs.length = n at *
  clear h h1 z hx p0 p1 p2 hfz hk1 hw1 hrg hb
  go_enter Try.func26, Try.ntmps26
  go_wp2_with fail
  rw [HE.out]
  refine c1.out.mono ?_
  rintro e w' ⟨rfl, rfl⟩
  go_wp2_with fail
  have hS0 : Kp (fun j => j = r) w1 w1.drew := (Kp.refl _ _).drew
  refine wp_region_held (S := fun W => Kp (fun j => j = r) w1 W) (by kernel_rfl) ?_
  change wpAnyH _ _ _ _ _ _ _ _ (World.drew _)
  refine wpAnyH_take (i := 0) (v := .pointer (some ⟨g, 0, none⟩)) rfl (by kernel_rfl) (by kernel_rfl) (by kernel_rfl) (fun _ _ _ h => h) (Or.inl ⟨by rfl, by intro W hW; go_simp; try (first | (with_reducible rfl) | omega)⟩) hS0 ?_
  refine wpAnyH_take (i := 1) (v := .pointer (some ⟨g, 0, none⟩)) rfl (by kernel_rfl) (by kernel_rfl) (by kernel_rfl) (fun _ _ _ h => h) (Or.inl ⟨by rfl, by intro W hW; go_simp; try (first | (with_reducible rfl) | omega)⟩) hS0 ?_
  refine wpAnyH_take (i := 2) (v := .pointer (some ⟨g, 0, none⟩)) rfl (by kernel_rfl) (by kernel_rfl) (by kernel_rfl) (fun _ _ _ h => h) (Or.inl ⟨by rfl, by intro W hW; go_simp; try (first | (with_reducible rfl) | omega)⟩) hS0 ?_
  refine wpAnyH_take (i := 3) (v := .slice (some ⟨r, 0, none⟩) n c) rfl (by kernel_rfl) (by kernel_rfl) (by kernel_rfl) (fun _ _ _ h => h) (Or.inl ⟨by rfl, by intro W hW; obtain ⟨g0, g1, g2, g3⟩ := HQ.out W hW; go_simp; try (first | (with_reducible rfl) | omega)⟩) hS0 ?_
  refine wpAnyH_take (i := 4) (v := .int .i64 i) rfl (by kernel_rfl) (by kernel_rfl) (by kernel_rfl) (fun _ _ _ h => h) (Or.inl ⟨by rfl, by intro W hW; go_simp; try (first | (with_reducible rfl) | omega)⟩) hS0 ?_
  refine wpAnyH_take (i := 5) (v := vV vk vn vx vy) rfl (by kernel_rfl) (by kernel_rfl) (by kernel_rfl) (fun _ _ _ h => h) (Or.inl ⟨by rfl, by intro W hW; obtain ⟨g0, g1, g2, g3⟩ := HQ.out W hW; go_simp; try (first | (with_reducible rfl) | omega)⟩) hS0 ?_
  refine wpAnyH_take (i := 6) (v := .pointer (some ⟨r, i * 3, none⟩)) rfl (by kernel_rfl) (by kernel_rfl) (by kernel_rfl) (fun _ _ _ h => h) (Or.inl ⟨by rfl, by intro W hW; go_simp; try (first | (with_reducible rfl) | omega)⟩) hS0 ?_
  refine wpAnyH_one (i := 7) (by kernel_rfl) rfl (fun K hK => ?_)
  go_simp
  refine hK _ _ ⟨(((hS0.setCell (p := ⟨r, i * 3, none⟩) (fun _ => rfl) _).setCell (p := ⟨r, i * 3 + 1, none⟩) (fun _ => rfl) _).setCell (p := ⟨r, i * 3 + 2, none⟩) (fun _ => rfl) _), ?_⟩; clear hK K
  refine wpAnyH_done (by kernel_rfl) ?_ _
  go_wp2_with fail
  go_ret
  exact ⟨rfl, F.out⟩
end Go.Proofs.Ythddhipmmhihlaa
