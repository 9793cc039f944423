/-
  The flat stack: what it is; its length, a value of it, fewer values, another value.
-/
import Derived.Test.YthddhipmmhihlaaDf2
import Derived.Deep.DeepCutAuto
import Derived.Deep.LoopGhost
namespace Go.Proofs.Ythddhipmmhihlaa
open Go.RowKit
set_option linter.unusedSimpArgs false
set_option linter.unusedVariables false
attribute [local go_sem] run_store_cplx
theorem len_box (g : Nat) (A : Option Addr) (n c : Nat) (w : World) (h : w.cell? ⟨g, 0, none⟩ = some (.slice A n c)) (hn : n ≤ 1000) : Calls Try.prog 15 #[.pointer (some ⟨g, 0, none⟩)] w fun e w' => e = .returned (.int .i64 (n : Int)) ∧ w = w' := by
  go_enter Try.func15, Try.ntmps15
  go_wp2
  go_ret
  exact ⟨rfl, rfl⟩
theorem has_box (g : Nat) (A : Option Addr) (n c : Nat) (i : Int) (w : World) (h : w.cell? ⟨g, 0, none⟩ = some (.slice A n c)) (hn : n ≤ 1000) : Calls Try.prog 32 #[.pointer (some ⟨g, 0, none⟩), .int .i64 i] w fun e w' => e = .returned (.bool (decide (0 ≤ i ∧ i < (n : Int)))) ∧ w = w' := by
  have c1 : Hid (Calls Try.prog 15 #[.pointer (some ⟨g, 0, none⟩)] w fun e w' => e = .returned (.int .i64 (n : Int)) ∧ w = w') := len_box g A n c w h hn
  clear h
  by_cases hi : 0 ≤ i
  · have hi' : ¬ i < 0 := by omega
    go_enter Try.func32, Try.ntmps32
    go_wp2_with fail
    refine Calls.mono c1.out ?_
    rintro e w' ⟨rfl, rfl⟩
    go_wp2_with fail
    go_ret
    refine ⟨?_, rfl⟩
    show Ending.returned (Value.bool (decide (i < (n : Int)))) = _
    simp [hi]
  · have hi' : i < 0 := by omega
    go_enter Try.func32, Try.ntmps32
    go_wp2_with fail
    go_ret
    refine ⟨?_, rfl⟩
    simp
    omega
structure SkW (w : World) (g : Nat) (A : Option Addr) (c : Nat) (vs : List DV) : Prop where
  c0 : w.cell? ⟨g, 0, none⟩ = some (.slice A vs.length c)
  f0 : w.frozen? ⟨g, 0, none⟩ = false
  row : RowF w (g + 1) 45 3 A vs.length c (vs.flatMap cellsV)
def Bk (g : Nat) (A : Option Addr) (j : Nat) : Prop := j = g ∨ A = some ⟨j, 0, none⟩
theorem SkW.blk_lt {w : World} {g c : Nat} {A : Option Addr} {vs : List DV} (h : SkW w g A c vs) {j : Nat} (hj : Bk g A j) : j < w.heap.size := by
  rcases hj with rfl | hA
  · exact World.block_lt_of_cell? _ _ h.c0
  · rcases h.row.form with ⟨e, _⟩ | ⟨r, e, _, hr⟩
    · rw [e] at hA; cases hA
    · rw [e] at hA; injection hA with hA; injection hA with hA; omega
theorem SkW.kpd {T : Nat → Prop} {w w' : World} {g c : Nat} {A : Option Addr} {vs : List DV} (h : SkW w g A c vs) (hk : Kp T w w') (hT : ∀ j, Bk g A j → ¬ T j) : SkW w' g A c vs :=
  ⟨hk.cellv h.c0 (hT _ (.inl rfl)), (hk.frozen (World.block_lt_of_cell? _ _ h.c0) (hT _ (.inl rfl))).trans h.f0, h.row.kp hk fun r e => hT _ (.inr e)⟩
theorem SkW.on {w w' : World} {g c : Nat} {A : Option Addr} {vs : List DV} (h : SkW w g A c vs) (hk : Kp (fun _ => False) w w') : SkW w' g A c vs := h.kpd hk fun _ _ => id
theorem SkW.sl {w : World} {g c : Nat} {A : Option Addr} {vs : List DV} (h : SkW w g A c vs) (hn : vs.length ≤ 1000) : SlV w w.heap.size A vs.length c vs := RowF.sl (sz := 3) (bytes := 32) (f := cellsV) (fun _ => rfl) (by decide) h.row (by unfold reachBytes; omega)
theorem SkW.ne {w : World} {g c r : Nat} {vs : List DV} (h : SkW w g (some ⟨r, 0, none⟩) c vs) : r ≠ g := by
  have := h.row.cells.1
  omega
def zDV : DV := ⟨0, 0, 0, 0⟩
set_option maxRecDepth 100000 in
theorem get_out (g : Nat) (A : Option Addr) (n c : Nat) (i : Int) (w : World) (h : w.cell? ⟨g, 0, none⟩ = some (.slice A n c)) (hn : n ≤ 1000) (hi : ¬ (0 ≤ i ∧ i < (n : Int))) : Calls Try.prog 17 #[.pointer (some ⟨g, 0, none⟩), .int .i64 i] w fun e w' => e = .returned (aggV zDV) ∧ Below w.heap.size w w' := by
  have c1 : ∀ w' : World, Below w.heap.size w w' → Hid (Calls Try.prog 32 #[.pointer (some ⟨g, 0, none⟩), .int .i64 i] w' fun e w'' => e = .returned (.bool false) ∧ w' = w'') := fun w' hw => by
    have := has_box g A n c i w' ((hw.cell (World.block_lt_of_cell? _ _ h)).trans h) hn
    rw [decide_eq_false hi] at this
    exact this
  clear h hi
  go_enter Try.func17, Try.ntmps17
  go_wp2_with fail
  refine Calls.mono (c1 _ ((Below.refl _ _).alloc (Nat.le_refl _) _)).out ?_
  rintro e w' ⟨rfl, rfl⟩
  go_wp2_with fail
  exact bodyPost_ret (v := zV) (by simp [results, Try.results17, go_sem]) rfl ⟨rfl, by repeat (first | exact Below.refl _ _ | (refine Below.setCell ?_ (by simp) _) | (refine Below.alloc ?_ (by simp) _))⟩
set_option maxRecDepth 100000 in
theorem get_in (g r n c : Nat) (i : Nat) (v : DV) (w : World) (h : w.cell? ⟨g, 0, none⟩ = some (.slice (some ⟨r, 0, none⟩) n c)) (hn : n ≤ 1000) (hi : i < n) (h0 : w.cell? ⟨r, i * 3, none⟩ = some (.int .i64 v.k)) (h1 : w.cell? ⟨r, i * 3 + 1, none⟩ = some (.int .i64 v.n)) (h2 : w.cell? ⟨r, i * 3 + 2, none⟩ = some (.complex .f64 v.x v.y)) :
    Calls Try.prog 17 #[.pointer (some ⟨g, 0, none⟩), .int .i64 i] w fun e w' => e = .returned (aggV v) ∧ Below w.heap.size w w' := by
  obtain ⟨vk, vn, vx, vy⟩ := v
  have c1 : ∀ w' : World, Below w.heap.size w w' → Hid (Calls Try.prog 32 #[.pointer (some ⟨g, 0, none⟩), .int .i64 i] w' fun e w'' => e = .returned (.bool true) ∧ w' = w'') := fun w' hw => by
    have := has_box g _ n c i w' ((hw.cell (World.block_lt_of_cell? _ _ h)).trans h) hn
    rw [decide_eq_true (by omega)] at this
    exact this
  have p := (World.cell?_alloc_lt w (.cells #[.int .i64 0, .int .i64 0, .complex .f64 0 0] 45) ⟨g, 0, none⟩ (World.block_lt_of_cell? _ _ h)).trans h
  have p0 := (World.cell?_alloc_lt w (.cells #[.int .i64 0, .int .i64 0, .complex .f64 0 0] 45) ⟨r, i * 3, none⟩ (World.block_lt_of_cell? _ _ h0)).trans h0
  have p1 := (World.cell?_alloc_lt w (.cells #[.int .i64 0, .int .i64 0, .complex .f64 0 0] 45) ⟨r, i * 3 + 1, none⟩ (World.block_lt_of_cell? _ _ h1)).trans h1
  have p2 := (World.cell?_alloc_lt w (.cells #[.int .i64 0, .int .i64 0, .complex .f64 0 0] 45) ⟨r, i * 3 + 2, none⟩ (World.block_lt_of_cell? _ _ h2)).trans h2
  have hin : (i : Int) < n := by omega
  simp only at p0 p1 p2
  clear h h0 h1 h2
  go_enter Try.func17, Try.ntmps17
  go_wp2_with fail
  refine Calls.mono (c1 _ ((Below.refl _ _).alloc (Nat.le_refl _) _)).out ?_
  rintro e w' ⟨rfl, rfl⟩
  go_wp2_with fail
  exact bodyPost_ret (v := vV vk vn vx vy) (by simp [results, Try.results17, go_sem]) rfl ⟨rfl, by repeat (first | exact Below.refl _ _ | (refine Below.setCell ?_ (by simp) _) | (refine Below.alloc ?_ (by simp) _))⟩
def getM (vs : List DV) (i : Int) : DV := if 0 ≤ i then (vs[i.toNat]?).getD zDV else zDV
theorem get_any (g c : Nat) (A : Option Addr) (vs : List DV) (i : Int) (w : World) (h : SkW w g A c vs) (hn : vs.length ≤ 1000) : Calls Try.prog 17 #[.pointer (some ⟨g, 0, none⟩), .int .i64 i] w fun e w' => e = .returned (aggV (getM vs i)) ∧ Below w.heap.size w w' := by
  by_cases hi : 0 ≤ i ∧ i < (vs.length : Int)
  · obtain ⟨k, rfl⟩ : ∃ k : Nat, i = (k : Int) := ⟨i.toNat, by omega⟩
    obtain ⟨b, off, v, e, hb, hx, p0, p1, p2⟩ := slv_at (h.sl hn) (show k < vs.length by omega)
    have hg : getM vs (k : Int) = v := by unfold getM; rw [if_pos (by omega)]; simp [hx]
    rw [hg]
    rcases h.row.form with ⟨e', h0, _⟩ | ⟨r, e', _, _⟩
    · omega
    · subst e'
      simp at e
      obtain ⟨rfl, rfl⟩ := e
      simp only [Nat.zero_add] at p0 p1 p2
      exact get_in g r vs.length c k v w h.c0 hn (by omega) p0 p1 p2
  · have hg : getM vs i = zDV := by
      unfold getM
      split
      · rw [List.getElem?_eq_none (by omega)]; rfl
      · rfl
    rw [hg]
    exact get_out g A vs.length c i w h.c0 hn hi
set_option maxRecDepth 100000 in
theorem cut_any (g c : Nat) (A : Option Addr) (vs : List DV) (i : Int) (w : World) (h : SkW w g A c vs) (hn : vs.length ≤ 1000) :
    Calls Try.prog 25 #[.pointer (some ⟨g, 0, none⟩), .int .i64 i] w fun e w' => (∃ v, e = .returned v) ∧ (∃ c', SkW w' g A c' (vs.take (max i 0).toNat)) ∧ Kp (fun j => j = g) w w' := by
  have hc0 := h.c0
  have hf0 := h.f0
  have c1 : Hid (Calls Try.prog 15 #[.pointer (some ⟨g, 0, none⟩)] w fun e w' => e = .returned (.int .i64 (vs.length : Int)) ∧ w = w') := len_box g A vs.length c w h.c0 hn
  obtain ⟨k, hk⟩ : ∃ k : Nat, (max i 0) = (k : Int) := ⟨(max i 0).toNat, by omega⟩
  rw [hk, Int.toNat_natCast]
  by_cases hlt : k < vs.length
  · rcases h.row.form with ⟨_, h0, _⟩ | ⟨r, rfl, hgr, hr⟩
    · omega
    · have hcc := h.row.2.1
      have hcm := h.row.2.2.1
      unfold maxLen at hcm
      have F : Hid ((∃ c', SkW (w.setCell ⟨g, 0, none⟩ (.slice (some ⟨r, 0, none⟩) k k)) g (some ⟨r, 0, none⟩) c' (vs.take k)) ∧ Kp (fun j => j = g) w (w.setCell ⟨g, 0, none⟩ (.slice (some ⟨r, 0, none⟩) k k))) := Lib.hid ⟨⟨k, by
        have hl : (vs.take k).length = k := by simp; omega
        refine ⟨?_, ?_, ?_⟩
        · rw [hl]; simp [go_sem, hc0]
        · rw [World.frozen?_setCell]; exact hf0
        · rw [hl, flatMap_take (sz := 3) cellsV (fun _ => rfl)]
          exact (h.row.cut (by omega)).set _ (fun r' e => by injection e with e; injection e with e; show r' ≠ g; omega) _⟩, (Kp.refl (fun j => j = g) w).setCell (p := ⟨g, 0, none⟩) (fun _ => rfl) _⟩
      generalize vs.length = n at *
      have hkn : (k : Int) < n := by omega
      have hkc : (k : Int) ≤ c := by omega
      have hck : k ≤ c := by omega
      clear h
      rcases (show i < 0 ∨ 0 ≤ i by omega) with hi | hi
      · obtain rfl : k = 0 := by omega
        have hm : max i 0 = 0 := by omega
        go_enter Try.func25, Try.ntmps25
        go_wp2_with fail
        refine Calls.mono c1.out ?_
        rintro e w' ⟨rfl, rfl⟩
        go_wp2_with fail
        go_end0
        exact ⟨⟨_, rfl⟩, F.out⟩
      · obtain rfl : i = (k : Int) := by omega
        have hi' : ¬ (k : Int) < 0 := by omega
        go_enter Try.func25, Try.ntmps25
        go_wp2_with fail
        refine Calls.mono c1.out ?_
        rintro e w' ⟨rfl, rfl⟩
        go_wp2_with fail
        go_end0
        exact ⟨⟨_, rfl⟩, F.out⟩
  · have F : Hid ((∃ c', SkW w g A c' (vs.take k)) ∧ Kp (fun j => j = g) w w) := Lib.hid ⟨⟨c, by rw [List.take_of_length_le (by omega)]; exact h⟩, Kp.refl _ _⟩
    generalize vs.length = n at *
    have hkn : ¬ (k : Int) < n := by omega
    clear h hf0
    rcases (show i < 0 ∨ 0 ≤ i by omega) with hi | hi
    · have hm : max i 0 = 0 := by omega
      obtain rfl : k = 0 := by omega
      obtain rfl : n = 0 := by omega
      go_enter Try.func25, Try.ntmps25
      go_wp2_with fail
      refine Calls.mono c1.out ?_
      rintro e w' ⟨rfl, rfl⟩
      go_wp2_with fail
      go_end0
      exact ⟨⟨_, rfl⟩, F.out⟩
    · obtain rfl : i = (k : Int) := by omega
      have hi' : ¬ (k : Int) < 0 := by omega
      go_enter Try.func25, Try.ntmps25
      go_wp2_with fail
      refine Calls.mono c1.out ?_
      rintro e w' ⟨rfl, rfl⟩
      go_wp2_with fail
      go_end0
      exact ⟨⟨_, rfl⟩, F.out⟩
end Go.Proofs.Ythddhipmmhihlaa
