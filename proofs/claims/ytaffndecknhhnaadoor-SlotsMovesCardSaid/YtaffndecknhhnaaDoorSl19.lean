/-
  Sets of slots: the walk of SlotsMoves.
-/
import Derived.Test.YtaffndecknhhnaaDoorSl14
import Derived.Deep.RegionHeld
namespace Go.Proofs.YtaffndecknhhnaaDoor
open Go.RowKit Go.Shelf
set_option linter.unusedSimpArgs false
set_option linter.unusedVariables false
attribute [local go_sem] Oper.semAt_some
/-- What the law's own variables hold: the set, the result, the list, its row, the iterator's own set, the count. -/
structure LwS (g h : Nat) (s : W4) (A : Option Addr) (n c : Nat) (xs : List Int) (W : World) (k : Int) : Prop where
  st : ∀ q, q < 4 → W.cell? ⟨g, q, none⟩ = some (.int .u64 (s.get q : Int))
  res : W.cell? ⟨g + 1, 0, none⟩ = some (.bool false)
  resf : W.frozen? ⟨g + 1, 0, none⟩ = false
  lst : W.cell? ⟨h, 0, none⟩ = some (.slice A n c)
  row : ∀ r, A = some ⟨r, 0, none⟩ → ∀ j v, xs[j]? = some v → W.cell? ⟨r, j, none⟩ = some (.int .i64 v)
  cl : ∀ q, q < 4 → W.cell? ⟨h + 1, q, none⟩ = some (.int .u64 (s.get q : Int))
  kc : W.cell? ⟨h + 1 + 1, 0, none⟩ = some (.int .i64 k)
  kf : W.frozen? ⟨h + 1 + 1, 0, none⟩ = false
theorem LwS.put {g h : Nat} {s : W4} {A : Option Addr} {n c : Nat} {xs : List Int} {W : World} {k : Int} (hL : LwS g h s A n c xs W k) (hg : g + 1 < h) (hA : ∀ r, A = some ⟨r, 0, none⟩ → r < h) (k' : Int) : LwS g h s A n c xs (W.setCell ⟨h + 1 + 1, 0, none⟩ (.int .i64 k')) k' := by
  have far : ∀ p : Addr, p.block ≠ h + 1 + 1 → (W.setCell ⟨h + 1 + 1, 0, none⟩ (.int .i64 k')).cell? p = W.cell? p := fun p hp => World.cell?_setCell_far _ _ _ _ (Ne.symm hp)
  refine ⟨fun q hq => (far _ (by show g ≠ _; omega)).trans (hL.st q hq), (far _ (by show g + 1 ≠ _; omega)).trans hL.res, (World.frozen?_setCell _ _ _ _).trans hL.resf, (far _ (by show h ≠ _; omega)).trans hL.lst, fun r hr j v hv => (far _ (by have := hA r hr; show r ≠ _; omega)).trans (hL.row r hr j v hv), fun q hq => (far _ (by show h + 1 ≠ _; omega)).trans (hL.cl q hq), ?_, (World.frozen?_setCell _ _ _ _).trans hL.kf⟩
  exact World.cell?_setCell_same' _ _ _ (by rw [hL.kc]; rfl)
theorem LwS.own {g h B : Nat} {s : W4} {A : Option Addr} {n c : Nat} {xs : List Int} {α : Type} (k : List α → Int) : OwnFrom B (fun (pre : List α) W => LwS g h s A n c xs W (k pre)) :=
  Own.from (fun s A B row hs hg hr => ⟨fun q hq => cell_kept (hs.st q hq) hg hr, cell_kept hs.res hg hr, (frozen_kept hs.res hg hr).trans hs.resf, cell_kept hs.lst hg hr, fun r e j v hv => cell_kept (hs.row r e j v hv) hg hr, fun q hq => cell_kept (hs.cl q hq) hg hr, cell_kept hs.kc hg hr, (frozen_kept hs.kc hg hr).trans hs.kf⟩) _
theorem ownFrom_block {α : Type} {B D : Nat} {o : Obj} (hD : D < B) : OwnFrom B (fun (_ : α) W => W.heap[D]? = some o) :=
  fun s A B' row hs hg hr => (hg.block D (Array.getElem?_eq_some_iff.1 hs).1 (fun e => by have := (hr _ e.symm).1; omega)).trans hs
theorem ownFrom_const {α : Type} {B : Nat} (p : α → Prop) : OwnFrom B (fun (pre : α) _ => p pre) := fun _ _ _ _ hs _ _ => hs
theorem prefix_snoc {xs pre : List Int} {x : Int} (hp : pre <+: xs) (hl : pre.length < xs.length) : (pre ++ [x] <+: xs ↔ xs[pre.length]? = some x) := by
  obtain ⟨t, rfl⟩ := hp
  have : t ≠ [] := by intro e; subst e; simp at hl
  obtain ⟨y, t, rfl⟩ : ∃ y t', t = y :: t' := by cases t with
    | nil => exact absurd rfl this
    | cons y t => exact ⟨y, t, rfl⟩
  constructor
  · rintro ⟨u, hu⟩
    rw [List.append_assoc, List.append_cancel_left_eq] at hu
    simp at hu
    simp [hu.1]
  · intro h
    simp at h
    subst h
    exact ⟨t, by simp⟩
theorem wp_nopanic {P : Program} {c : Code} {Q : Exit → Act → World → Prop} {a : Act} {w : World} (h : c.wp P (fun e a w => (∀ x, e ≠ .panic x) ∧ Q e a w) a w) : c.wp P Q a w :=
  (wpIn_wide (n := 7)).1 (wpIn_mono ((wpIn_wide (n := 7)).2 h) fun e a w h => h.2)
/-- What stands in the last region. -/
structure EndS (g h : Nat) (s : W4) (A : Option Addr) (n c : Nat) (w W2 : World) (D D2 : Nat) (W : World) : Prop where
  st : ∀ q, q < 4 → W.cell? ⟨g, q, none⟩ = some (.int .u64 (s.get q : Int))
  lst : W.cell? ⟨h, 0, none⟩ = some (.slice A n c)
  kc : W.cell? ⟨h + 1 + 1, 0, none⟩ = some (.int .i64 ((n + n : Nat) : Int))
  res : ∃ v, W.cell? ⟨g + 1, 0, none⟩ = some v
  resf : W.frozen? ⟨g + 1, 0, none⟩ = false
  bw : Below w.heap.size w W
  k1 : W.heap[D]? = some (.deferred (some []))
  k2 : W.heap[D2]? = some (.deferred (some []))
theorem EndS.call {g h : Nat} {s : W4} {A : Option Addr} {n c : Nat} {w W2 : World} {D D2 : Nat} {W W' : World} (hE : EndS g h s A n c w W2 D D2 W) (hb : Below W.heap.size W W') : EndS g h s A n c w W2 D D2 W' := by
  obtain ⟨v, hv⟩ := hE.res
  exact ⟨fun q hq => (hb.cell (World.block_lt_of_cell? _ _ (hE.st q hq))).trans (hE.st q hq), (hb.cell (World.block_lt_of_cell? _ _ hE.lst)).trans hE.lst, (hb.cell (World.block_lt_of_cell? _ _ hE.kc)).trans hE.kc, ⟨v, (hb.cell (World.block_lt_of_cell? _ _ hv)).trans hv⟩, (hb.frozen (World.block_lt_of_cell? _ _ hv)).trans hE.resf, bl_trans hE.bw hE.bw.size hb, (hb.block D (Array.getElem?_eq_some_iff.1 hE.k1).1).trans hE.k1, (hb.block D2 (Array.getElem?_eq_some_iff.1 hE.k2).1).trans hE.k2⟩
theorem EndS.drew {g h : Nat} {s : W4} {A : Option Addr} {n c : Nat} {w W2 : World} {D D2 : Nat} {W : World} (hE : EndS g h s A n c w W2 D D2 W) : EndS g h s A n c w W2 D D2 W.drew := hE.call ((Below.refl _ _).drew)
theorem EndS.put {h : Nat} {s : W4} {A : Option Addr} {n c : Nat} {w W2 : World} {D D2 : Nat} {W : World} (hE : EndS w.heap.size h s A n c w W2 D D2 W) (hg : w.heap.size + 1 < h) (v : Value) : EndS w.heap.size h s A n c w W2 D D2 (W.setCell ⟨w.heap.size + 1, 0, none⟩ v) := by
  obtain ⟨u, hu⟩ := hE.res
  have far : ∀ p : Addr, p.block ≠ w.heap.size + 1 → (W.setCell ⟨w.heap.size + 1, 0, none⟩ v).cell? p = W.cell? p := fun p hp => World.cell?_setCell_far _ _ _ _ (Ne.symm hp)
  exact ⟨fun q hq => (far _ (by show w.heap.size ≠ _; omega)).trans (hE.st q hq), (far _ (by show h ≠ _; omega)).trans hE.lst, (far _ (by show h + 1 + 1 ≠ _; omega)).trans hE.kc, ⟨v, World.cell?_setCell_same' _ _ _ (by rw [hu]; rfl)⟩, (World.frozen?_setCell _ _ _ _).trans hE.resf, hE.bw.setCell (p := ⟨w.heap.size + 1, 0, none⟩) (by show w.heap.size ≤ w.heap.size + 1; omega) _, (KeepsOthers.setCell _ _ _).same D _ hE.k1 rfl, (KeepsOthers.setCell _ _ _).same D2 _ hE.k2 rfl⟩
set_option maxRecDepth 100000 in
set_option maxHeartbeats 8000000 in
theorem slotsMoves_walk (s : W4) (hok : s.Ok) (b : Int) (w : World) (hT : Tab w) (hw0 : 0 < w.heap.size) : Calls Tryd.prog 6 #[aggW s, .int .i64 b] w fun e w' => e = .returned (.bool true) ∧ Below w.heap.size w w' := by
  refine (callsIn_wide (n := 7)).1 ?_
  refine callsIn_of_wp_marks Tryd.func6 rfl trivial ?_ rfl
  simp only [Tryd.ntmps6, List.size_toArray, List.length_cons, List.length_nil, Nat.reduceAdd, Nat.reduceSub, Array.replicate_succ, Array.replicate_zero, List.push_toArray, List.append_toArray, List.nil_append, List.cons_append]
  have cl := Lib.hid (fun w => rlist_any s hok w)
  have hlen := listK_len s 256
  have hst := all_stops (n := 6) (by omega)
  obtain ⟨xs, hxs⟩ : ∃ xs, listM s = xs := ⟨_, rfl⟩
  have cl : Hid (∀ w, Calls Tryd.prog 21 #[aggW s] w (IsIRow xs w)) := Lib.hid (by rw [← hxs]; exact cl.out)
  have HX := Lib.hid hxs
  obtain ⟨n, hn⟩ : ∃ n, xs.length = n := ⟨_, rfl⟩
  have hn256 : n ≤ 256 := by rw [← hn, ← hxs]; exact hlen
  refine wpIn_wide.2 ?_
  go_wp2_with fail
  refine (cl.out _).mono ?_
  rintro e w1 ⟨A, c, rfl, hown, hb1⟩
  rw [hn] at hown ⊢
  have hsz1 : w.heap.size + 1 < w1.heap.size := by have := hb1.size; simp at this; omega
  have hbl1 : Below w.heap.size w w1 := bl_trans (((Below.refl _ _).alloc (Nat.le_refl _) _).alloc (by simp) _) (by simp; omega) hb1
  have e0 : ∀ q, q < 4 → w1.cell? ⟨w.heap.size, q, none⟩ = some (.int .u64 (s.get q : Int)) := fun q hq => (hb1.cell (p := ⟨w.heap.size, q, none⟩) (by simp; omega)).trans ((World.cell?_alloc_lt _ _ _ (by show w.heap.size < _; simp)).trans (set_new w s q hq))
  have e1 := new_cells (w := w.alloc (.cells #[.int .u64 (s.a0 : Int), .int .u64 (s.a1 : Int), .int .u64 (s.a2 : Int), .int .u64 (s.a3 : Int)] 24)) (cs := #[.bool false]) (t := 4) hb1 0 (.bool false) rfl
  rw [World.size_alloc] at e1
  have hA : ∀ r, A = some ⟨r, 0, none⟩ → r < w1.heap.size := fun r hr => by subst hr; exact (hown.lt r rfl).2
  have hA0 : 0 < n → ∃ r, A = some ⟨r, 0, none⟩ := fun h0 => by
    rcases hown.2 with ⟨_, h0'⟩ | ⟨g', cap', cur, hv, _⟩
    · omega
    · simp only [Value.slice.injEq, true_and] at hv
      exact ⟨g', hv.1⟩
  have hrow : ∀ r, A = some ⟨r, 0, none⟩ → ∀ j v, xs[j]? = some v → w1.cell? ⟨r, j, none⟩ = some (.int .i64 v) := fun r hr j v hv => by
    subst hr
    have hj : j < n := by rw [← hn]; exact (List.getElem?_eq_some_iff.1 hv).1
    rw [hown.cellAt j (by omega)]
    have := flatMap_at (sz := 1) iC (fun _ => rfl) xs j 0 v (.int .i64 v) (by omega) hv rfl
    simpa using this
  have b0 : (w1.alloc (.cells #[.slice A n c] 25)).cell? ⟨w.heap.size, 0, none⟩ = some (.int .u64 (s.a0 : Int)) := (World.cell?_alloc_lt _ _ _ (by show w.heap.size < _; omega)).trans (e0 0 (by omega))
  have b1 : (w1.alloc (.cells #[.slice A n c] 25)).cell? ⟨w.heap.size, 1, none⟩ = some (.int .u64 (s.a1 : Int)) := (World.cell?_alloc_lt _ _ _ (by show w.heap.size < _; omega)).trans (e0 1 (by omega))
  have b2 : (w1.alloc (.cells #[.slice A n c] 25)).cell? ⟨w.heap.size, 2, none⟩ = some (.int .u64 (s.a2 : Int)) := (World.cell?_alloc_lt _ _ _ (by show w.heap.size < _; omega)).trans (e0 2 (by omega))
  have b3 : (w1.alloc (.cells #[.slice A n c] 25)).cell? ⟨w.heap.size, 3, none⟩ = some (.int .u64 (s.a3 : Int)) := (World.cell?_alloc_lt _ _ _ (by show w.heap.size < _; omega)).trans (e0 3 (by omega))
  go_wp2_with fail
  refine (all_any s _).mono ?_
  rintro e w' ⟨rfl, rfl⟩
  have hnf : ∀ w, (binOp .eql 39 (.func (.func 33) #[] #[.pointer (some ⟨w1.heap.size + 1, 0, none⟩)]) .nilFunc).run Tryd.prog w = .ok (.bool false) w := fun w => by kernel_rfl
  go_wp2_with fail
  obtain ⟨W0, hW⟩ : ∃ W0, ((w1.alloc (.cells #[.slice A n c] 25)).alloc (.cells #[.int .u64 (s.a0 : Int), .int .u64 (s.a1 : Int), .int .u64 (s.a2 : Int), .int .u64 (s.a3 : Int)] 24)).alloc (.cells #[.int .i64 0] 3) = W0 := ⟨_, rfl⟩
  have hs0 : W0.heap.size = w1.heap.size + 1 + 1 + 1 := by rw [← hW]; simp
  have hB0 : Below w.heap.size w W0 := by rw [← hW]; exact ((hbl1.alloc (by omega) _).alloc (by simp; omega) _).alloc (by simp; omega) _
  have hk : ∀ p : Addr, p.block < w1.heap.size → W0.cell? p = w1.cell? p := fun p hp => by
    rw [← hW, World.cell?_alloc_lt _ _ _ (by simp; omega), World.cell?_alloc_lt _ _ _ (by simp; omega), World.cell?_alloc_lt _ _ _ hp]
  have hkf : ∀ p : Addr, p.block < w1.heap.size → W0.frozen? p = w1.frozen? p := fun p hp => by
    have hb : Below w1.heap.size w1 W0 := by rw [← hW]; exact (((Below.refl _ _).alloc (Nat.le_refl _) _).alloc (by simp) _).alloc (by simp; omega) _
    exact hb.frozen hp
  have hL0 : LwS w.heap.size w1.heap.size s A n c xs W0 ((([] : List Int).length : Nat) : Int) := by
    constructor
    case st => exact fun q hq => (hk ⟨w.heap.size, q, none⟩ (by show w.heap.size < _; omega)).trans (e0 q hq)
    case res => exact (hk ⟨w.heap.size + 1, 0, none⟩ hsz1).trans e1.1
    case resf => exact (hkf ⟨w.heap.size + 1, 0, none⟩ hsz1).trans e1.2
    case row => exact fun r hr j v hv => (hk ⟨r, j, none⟩ (hA r hr)).trans (hrow r hr j v hv)
    case cl =>
      intro q hq
      rw [← hW]
      rcases (show q = 0 ∨ q = 1 ∨ q = 2 ∨ q = 3 by omega) with rfl | rfl | rfl | rfl <;> simp [go_sem, W4.get]
    all_goals rw [← hW]; simp [go_sem]
  rw [hW]
  clear hW hk hkf hown hb1 hbl1 e0 e1 hrow b0 b1 b2 b3 hnf
  have hst' := fun Bs W h1 h2 h3 h4 => hst Bs w.heap.size s hok hw0 W h1 h2 h3 h4
  rw [HX.out] at hst'
  refine (wpIn_wide (n := 7)).1 ?_
  refine wpIn_rangeFunc_ownF rfl (by omega) (gf := 33) (lb := #[.pointer (some ⟨w1.heap.size + 1, 0, none⟩)]) rfl trivial (enters_of Tryd.func33 (by kernel_rfl) rfl)
    (hst' (w1.heap.size + 1) W0 (by omega) (by omega) (hT.below hB0 hw0) hL0.cl) belowK_t (belowK_b (by omega)) (Below.refl _ _) (fun _ => rfl)
    (fun pre W => pre <+: xs ∧ (LwS w.heap.size w1.heap.size s A n c xs W ((pre.length : Nat) : Int) ∧ Below w.heap.size w W))
    (fun _ pre _ => ¬ pre <+: xs)
    (OwnFrom.and (ownFrom_const _) (OwnFrom.and (LwS.own fun pre => ((pre.length : Nat) : Int)) (ownFrom_below (Nat.le_refl _) (by omega))))
    (fun _ => ownFrom_const _)
    ⟨List.nil_prefix, hL0, hB0⟩
    (fun x => { tmps := #[aggW s, .int .i64 b, .pointer (some ⟨w.heap.size, 0, none⟩), undef, .pointer (some ⟨w.heap.size + 1, 0, none⟩), .pointer (some ⟨w1.heap.size, 0, none⟩), .func (.func 33) #[] #[.pointer (some ⟨w1.heap.size + 1, 0, none⟩)], .pointer (some ⟨w1.heap.size + 1 + 1, 0, none⟩), .int .i64 x, .agg #[.int .u64 (s.a0 : Int), .int .u64 (s.a1 : Int), .int .u64 (s.a2 : Int), .int .u64 (s.a3 : Int)], .slice A n c, .agg #[.int .u64 (s.a0 : Int), .int .u64 (s.a1 : Int), .int .u64 (s.a2 : Int), .int .u64 (s.a3 : Int)], .func (.func 33) #[] #[.pointer (some ⟨w1.heap.size + 1, 0, none⟩)], .func (.func 33) #[] #[.pointer (some ⟨w1.heap.size + 1, 0, none⟩)], .bool false, .func (.func 33) #[] #[.pointer (some ⟨w1.heap.size + 1, 0, none⟩)], .int .i64 x, undef, undef, undef, undef, undef, undef, undef, undef, undef, undef, undef, undef, undef, undef, undef, undef, undef, undef, undef, undef, undef, undef, undef, undef, undef, undef, undef, undef, undef, undef, undef, undef, undef, undef, undef], defers := [] }) ?assign ?body ?done ?stop
  case assign =>
    intro l x W K hK
    gi_wp2
    exact hK
  case body =>
    rintro l pre x W ⟨hp, hL, hB⟩ hlen
    obtain ⟨r, hr⟩ := hA0 (by omega)
    have hrl := hA r hr
    obtain ⟨v, hv⟩ : ∃ v, xs[pre.length]? = some v := ⟨_, List.getElem?_eq_getElem hlen⟩
    have hpx := prefix_snoc (x := x) hp hlen
    rw [hv] at hpx
    have q0 := hL.row r hr pre.length v hv
    have q1 := hL.kc
    have q2 := hL.kf
    have q3 := hL.lst
    have q4 := hL.res
    have q5 := hL.resf
    rw [hr] at q3
    have hput := fun k' => hL.put (by omega) hA k'
    have hln : (pre ++ [x]).length = pre.length + 1 := by simp
    rw [hn] at hlen
    by_cases hvx : v = x
    · subst hvx
      have hp2 := hpx.2 rfl
      obtain ⟨k, hk⟩ : ∃ k, pre.length = k := ⟨_, rfl⟩
      rw [hk] at q0 q1 hlen hln
      clear hL hpx hv
      gi_wp2
      refine ⟨KeepsOthers.setCell _ _ _, (Below.refl w.heap.size W).setCell (p := ⟨w1.heap.size + 1 + 1, 0, none⟩) (by show w.heap.size ≤ w1.heap.size + 1 + 1; omega) _, hp2, ?_, hB.setCell (p := ⟨w1.heap.size + 1 + 1, 0, none⟩) (by show w.heap.size ≤ w1.heap.size + 1 + 1; omega) _⟩
      rw [hln]
      have := hput ((k : Int) + 1)
      simpa using this
    · have hp2 : ¬ (pre ++ [x] <+: xs) := fun h => hvx (Option.some.inj (hpx.1 h))
      obtain ⟨k, hk⟩ : ∃ k, pre.length = k := ⟨_, rfl⟩
      rw [hk] at q0 q1 hlen hln
      have hvne : (v != x) = true := by simpa using hvx
      clear hL hpx hv
      gi_wp2
      exact ⟨KeepsOthers.setCell _ _ _, hp2⟩
  case done =>
    rintro D ys W1 hD hys1 ⟨_, hL, hB⟩ hK
    rw [hys1, hn] at hL
    go_wp2_with fail
    have hDl : D < W1.heap.size := (Array.getElem?_eq_some_iff.1 hK).1
    have hh1 : w1.heap.size + 1 < W1.heap.size := World.block_lt_of_cell? _ _ (hL.cl 0 (by omega))
    have hww : w.heap.size ≤ W1.heap.size := hB.size
    refine (wpIn_wide (n := 7)).1 ?_
    refine wpIn_rangeFunc_ownF rfl (by omega) (gf := 33) (lb := #[.pointer (some ⟨w1.heap.size + 1, 0, none⟩)]) rfl trivial (enters_of Tryd.func33 (by kernel_rfl) rfl)
      (hst' (w1.heap.size + 1) W1 hh1 hww (hT.below hB hw0) hL.cl) belowK_t (belowK_b hww) (Below.refl _ _) (fun _ => rfl)
      (fun pre W => LwS w.heap.size w1.heap.size s A n c xs W (((n + pre.length : Nat)) : Int) ∧ (Below w.heap.size w W ∧ W.heap[D]? = some (.deferred (some []))))
      (fun _ _ _ => False)
      (OwnFrom.and (LwS.own fun pre => (((n + pre.length : Nat)) : Int)) (OwnFrom.and (ownFrom_below (Nat.le_refl _) hww) (ownFrom_block hDl)))
      (fun _ => ownFrom_const _)
      ⟨by simpa using hL, hB, hK⟩
      (fun x => { tmps := #[aggW s, .int .i64 b, .pointer (some ⟨w.heap.size, 0, none⟩), undef, .pointer (some ⟨w.heap.size + 1, 0, none⟩), .pointer (some ⟨w1.heap.size, 0, none⟩), .func (.func 33) #[] #[.pointer (some ⟨w1.heap.size + 1, 0, none⟩)], .pointer (some ⟨w1.heap.size + 1 + 1, 0, none⟩), undef, .agg #[.int .u64 (s.a0 : Int), .int .u64 (s.a1 : Int), .int .u64 (s.a2 : Int), .int .u64 (s.a3 : Int)], .slice A n c, .agg #[.int .u64 (s.a0 : Int), .int .u64 (s.a1 : Int), .int .u64 (s.a2 : Int), .int .u64 (s.a3 : Int)], .func (.func 33) #[] #[.pointer (some ⟨w1.heap.size + 1, 0, none⟩)], .func (.func 33) #[] #[.pointer (some ⟨w1.heap.size + 1, 0, none⟩)], .bool false, .func (.func 33) #[] #[.pointer (some ⟨w1.heap.size + 1, 0, none⟩)], undef, undef, undef, undef, undef, undef, undef, undef, undef, undef, undef, undef, undef, undef, undef, .func (.func 33) #[] #[.pointer (some ⟨w1.heap.size + 1, 0, none⟩)], .int .i64 x, undef, undef, undef, undef, undef, undef, undef, undef, undef, undef, undef, undef, undef, undef, undef, undef, undef, undef, undef], defers := [] }) ?assign2 ?body2 ?done2 ?stop2
    case assign2 =>
      intro l x W K hK
      gi_wp2
      exact hK
    case body2 =>
      rintro l pre x W ⟨hL2, hB2, hK2⟩ hlen
      have q1 := hL2.kc
      have q2 := hL2.kf
      have hput := fun k' => hL2.put (by omega) hA k'
      have hln : n + (pre ++ [x]).length = n + pre.length + 1 := by simp; omega
      rw [hn] at hlen
      obtain ⟨k, hk⟩ : ∃ k, n + pre.length = k := ⟨_, rfl⟩
      have hk512 : k < 512 := by omega
      rw [hk] at q1 hln
      clear hL2
      gi_wp2
      refine ⟨KeepsOthers.setCell _ _ _, (Below.refl w.heap.size W).setCell (p := ⟨w1.heap.size + 1 + 1, 0, none⟩) (by show w.heap.size ≤ w1.heap.size + 1 + 1; omega) _, ?_, hB2.setCell (p := ⟨w1.heap.size + 1 + 1, 0, none⟩) (by show w.heap.size ≤ w1.heap.size + 1 + 1; omega) _, (KeepsOthers.setCell _ _ _).same D _ hK2 rfl⟩
      rw [hln]
      have := hput ((k : Int) + 1)
      simpa using this
    case stop2 =>
      rintro D2 cc pre W _ _ h _
      exact h.elim
    case done2 =>
      rintro D2 ys W2 hD2 hys ⟨hL2, hB2, hK1⟩ hK2
      rw [hys, hn] at hL2
      have hE0 : EndS w.heap.size w1.heap.size s A n c w W2 D D2 W2 := ⟨hL2.st, hL2.lst, hL2.kc, ⟨_, hL2.res⟩, hL2.resf, hB2, hK1, hK2⟩
      have cm := Lib.hid (fun W hW hw => move_any s hok b W hW hw)
      have cr := Lib.hid (fun W => rmove_any s hok b W)
      have clv := Lib.hid (fun W hW hw => slots_lives W hW hw)
      generalize movedM s b = M at *
      have heq : ∀ W, (Op.equalIn 10000 24 (aggW M) (aggW M)).run Tryd.prog W = .ok true W := fun W => by
        have := eq_arr 9998 M.a0 M.a1 M.a2 M.a3 M.a0 M.a1 M.a2 M.a3 W
        simpa using this
      have hguard := eq_guard
      have hTT : ∀ W, EndS w.heap.size w1.heap.size s A n c w W2 D D2 W → Tab W ∧ 0 < W.heap.size := fun W hW => ⟨hT.below hW.bw hw0, by have := hW.bw.size; omega⟩
      have hnn : ((n : Int) + n == 2 * n) = true := by simp; omega
      have hw2 : IntKind.i64.wrap (2 * (n : Int)) = 2 * n := by rw [IntKind.wrap_i64]; omega
      clear hL2 hB2 hK1 hK2 hst hst' hL hB hK
      go_wp2_with fail
      refine wp_nopanic ?_
      refine wp_region_held (S := fun W => EndS w.heap.size w1.heap.size s A n c w W2 D D2 W) (by kernel_rfl) ?_
      change wpAnyH _ _ _ _ _ _ _ _ (World.drew _)
      have hS0 := hE0.drew
      refine wpAnyH_take (i := 0) (v := .int .i64 ((n + n : Nat) : Int)) rfl (by kernel_rfl) (by kernel_rfl) (by kernel_rfl) (fun cc _ _ h => absurd rfl (h.1 cc)) (Or.inl ⟨by rfl, by intro W hW; have a0 := hW.kc; go_simp; try (first | (with_reducible rfl) | omega)⟩) hS0 ?_
      refine wpAnyH_take (i := 1) (v := .slice A n c) rfl (by kernel_rfl) (by kernel_rfl) (by kernel_rfl) (fun cc _ _ h => absurd rfl (h.1 cc)) (Or.inl ⟨by rfl, by intro W hW; have a0 := hW.lst; go_simp; try (first | (with_reducible rfl) | omega)⟩) hS0 ?_
      refine wpAnyH_take (i := 2) (v := .int .i64 (n : Int)) rfl (by kernel_rfl) (by kernel_rfl) (by kernel_rfl) (fun cc _ _ h => absurd rfl (h.1 cc)) (Or.inl ⟨by rfl, by intro W hW; go_simp; try (first | (with_reducible rfl) | omega)⟩) hS0 ?_
      refine wpAnyH_take (i := 3) (v := .int .i64 (2 * (n : Int))) rfl (by kernel_rfl) (by kernel_rfl) (by kernel_rfl) (fun cc _ _ h => absurd rfl (h.1 cc)) (Or.inl ⟨by rfl, by intro W hW; go_simp; try (first | (with_reducible rfl) | omega)⟩) hS0 ?_
      refine wpAnyH_one (i := 4) (by kernel_rfl) rfl (fun K hK => ?_)
      go_simp
      refine hK _ _ ⟨hS0, ?_⟩; clear hK K
      refine wpAnyH_one (i := 5) (by kernel_rfl) rfl (fun K hK => ?_)
      go_simp
      refine hK _ _ ⟨hS0, ?_⟩; clear hK K
      refine wpAnyH_take (i := 6) (v := aggW s) rfl (by kernel_rfl) (by kernel_rfl) (by kernel_rfl) (fun cc _ _ h => absurd rfl (h.1 cc)) (Or.inl ⟨by rfl, by intro W hW; have a0 := hW.st 0 (by omega); have a1 := hW.st 1 (by omega); have a2 := hW.st 2 (by omega); have a3 := hW.st 3 (by omega); simp only [W4.get] at a0 a1 a2 a3; go_simp; try (first | (with_reducible rfl) | omega)⟩) hS0 ?_
      refine wpAnyH_take (i := 7) (v := .int .i64 b) rfl (by kernel_rfl) (by kernel_rfl) (by kernel_rfl) (fun cc _ _ h => absurd rfl (h.1 cc)) (Or.inl ⟨by rfl, by intro W hW; go_simp; try (first | (with_reducible rfl) | omega)⟩) hS0 ?_
      refine wpAnyH_take (i := 9) (v := aggW s) rfl (by kernel_rfl) (by kernel_rfl) (by kernel_rfl) (fun cc _ _ h => absurd rfl (h.1 cc)) (Or.inl ⟨by rfl, by intro W hW; have a0 := hW.st 0 (by omega); have a1 := hW.st 1 (by omega); have a2 := hW.st 2 (by omega); have a3 := hW.st 3 (by omega); simp only [W4.get] at a0 a1 a2 a3; go_simp; try (first | (with_reducible rfl) | omega)⟩) hS0 ?_
      refine wpAnyH_take (i := 10) (v := .int .i64 b) rfl (by kernel_rfl) (by kernel_rfl) (by kernel_rfl) (fun cc _ _ h => absurd rfl (h.1 cc)) (Or.inl ⟨by rfl, by intro W hW; go_simp; try (first | (with_reducible rfl) | omega)⟩) hS0 ?_
      refine wpAnyH_one (i := 8) (by kernel_rfl) rfl (fun K hK => ?_)
      go_simp
      refine Calls.mono (cm.out _ (hTT _ hS0).1 (hTT _ hS0).2) ?_
      rintro e w3 ⟨rfl, hb3⟩
      have hS3 := hS0.call hb3
      go_simp
      refine hK _ _ ⟨hS3, ?_⟩; clear hK K
      refine wpAnyH_one (i := 11) (by kernel_rfl) rfl (fun K hK => ?_)
      go_simp
      refine Calls.mono (cr.out _) ?_
      rintro e w4 ⟨rfl, hb4⟩
      have hS4 := hS3.call hb4
      go_simp
      refine hK _ _ ⟨hS4, ?_⟩; clear hK K
      refine wpAnyH_one (i := 12) (by kernel_rfl) rfl (fun K hK => ?_)
      go_simp
      refine hK _ _ ⟨hS4, ?_⟩; clear hK K
      refine wpAnyH_one (i := 13) (by kernel_rfl) rfl (fun K hK => ?_)
      go_simp
      refine hK _ _ ⟨hS4, ?_⟩; clear hK K
      refine wpAnyH_one (i := 14) (by kernel_rfl) rfl (fun K hK => ?_)
      go_simp
      refine hK _ _ ⟨hS4, ?_⟩; clear hK K
      refine wpAnyH_one (i := 15) (by kernel_rfl) rfl (fun K hK => ?_)
      go_simp
      refine Calls.mono (clv.out _ (hTT _ hS4).1 (hTT _ hS4).2) ?_
      rintro e w5 ⟨rfl, hb5⟩
      have hS5 := hS4.call hb5
      go_simp
      refine hK _ _ ⟨hS5, ?_⟩; clear hK K
      refine wpAnyH_one (i := 16) (by kernel_rfl) rfl (fun K hK => ?_)
      go_simp
      refine hK _ _ ⟨hS5, ?_⟩; clear hK K
      obtain ⟨u9, a9⟩ := hS5.res
      have f9 := hS5.resf
      refine wpAnyH_one (i := 17) (by kernel_rfl) rfl (fun K hK => ?_)
      go_simp
      refine hK _ _ ⟨(hS5.put hsz1 _), ?_⟩; clear hK K
      refine wpAnyH_done (by kernel_rfl) ?_ _
      have hE9 := hS5.put hsz1 (.bool true)
      refine ⟨(fun cc h => by cases h), ?_⟩
      go_wp2_with fail
      have hK2' := hE9.k2
      refine ⟨by simp, .inl ⟨_, _, rfl, run_takeDeferred hK2', ?_⟩⟩
      have hK1' := (World.putObj_heap_other (o := .deferred none) (show D ≠ D2 by omega)).trans hE9.k1
      refine ⟨by simp, .inl ⟨_, _, rfl, run_takeDeferred hK1', ?_⟩⟩
      have x0 := World.cell?_setCell_same' w5 ⟨w.heap.size + 1, 0, none⟩ (.bool true) (by rw [a9]; rfl)
      have x1 := cell_kept x0 (grownBy_putObj' _ D2 (.deferred none)) (fun r e => by cases e; exact ⟨_, hK2', rfl⟩)
      have x2 := cell_kept x1 (grownBy_putObj' _ D (.deferred none)) (fun r e => by cases e; exact ⟨_, hK1', rfl⟩)
      have y1 := hE9.bw.trans (belowK_b (w := w) (Nat.le_refl _) _ D2 _ (.deferred none) (by omega) hK2' rfl rfl)
      have y2 := y1.trans (belowK_b (w := w) (Nat.le_refl _) _ D _ (.deferred none) (by omega) hK1' rfl rfl)
      refine ⟨.bool true, ?_, rfl, y2⟩
      simp [results, Tryd.f6, go_sem, x2]
  case stop =>
    rintro D cc pre W _ hpre h _
    exact absurd hpre h
end Go.Proofs.YtaffndecknhhnaaDoor
