/-
  Graphs of programs: a function, and all that it comes to.
-/
import Derived.Test.YtjblfdnhmmlbfaaGe7
namespace Go.Proofs.Ytjblfdnhmmlbfaa
open Go.RowKit Go.Maps
set_option linter.unusedSimpArgs false
set_option linter.unusedVariables false
theorem run_store_fn {P : Program} {w : World} {a : Addr} {m : Mode} (fn : Fn) (first cap : Array Value) : (store a (.func fn first cap) m).run P w = stored P w a (.func fn first cap) m := run_store P w a _ m rfl
attribute [local go_sem] run_store_fn
theorem edgesU_max (codes : List (List DInstr)) (k i : Nat) : (rowG (edgesU codes k) i).length ≤ codes.length := by
  by_cases hi : i < k
  · rw [edgesU_row codes hi]; exact toM_len _ _ _
  · unfold rowG edgesU; simp [hi]
theorem edgesU_in (codes : List (List DInstr)) (k i : Nat) (x : Int) (hx : x ∈ rowG (edgesU codes k) i) : 0 ≤ x ∧ x < (codes.length : Int) := by
  by_cases hi : i < k
  · rw [edgesU_row codes hi] at hx
    unfold toM at hx
    rw [if_pos (by omega), List.mem_map] at hx
    obtain ⟨g, hg, rfl⟩ := hx
    have := (List.mem_filter.1 hg).1
    rw [List.mem_range] at this
    omega
  · exfalso
    revert hx
    unfold rowG edgesU
    simp [hi]
theorem mp_start {w : World} {mb n : Nat} (h : MapI w mb 0 (.map [])) : MpD w mb n (fun _ => 0) 0 (.map []) :=
  ⟨h.mono (Nat.zero_le _), by simp [Maps.size], fun x => by simp [hasI, Maps.has], fun j hj => ⟨atKey_of_not_has rfl _, Nat.zero_le _⟩⟩
theorem unv_max (n : Nat) (m : Nat → Nat) : unv n m ≤ n := cntU_max _ _
set_option maxRecDepth 100000 in
set_option maxHeartbeats 8000000 in
theorem reach_any (B : Nat) (FA : Option Addr) (fn fc : Nat) (codes : List (List DInstr)) (f : Int) (w : World) (h : PgW w B FA fn fc codes) (hB : B ≤ w.heap.size) (hfn : fn ≤ 50) (hS : ∀ C ∈ codes, C.length ≤ 150) :
    Calls Try.prog 13 #[.agg #[.slice FA fn fc], .int .i64 f] w (IsReach (edgesU codes fn) f w) := by
  have HL : Hid (codes.length = fn) := Lib.hid h.1
  have hEL : (edgesU codes fn).length = fn := edgesU_len _ _
  have HEL := Lib.hid hEL
  obtain ⟨w1, hw1⟩ : ∃ X, w.alloc (.cells #[.slice FA fn fc] 24) = X := ⟨_, rfl⟩
  obtain ⟨g0, hg⟩ : ∃ g, w.heap.size = g := ⟨_, rfl⟩
  have hb1 : Below g0 w w1 := by rw [← hw1, ← hg]; exact bl_one _
  have EQ : Hid (∀ W, Below w1.heap.size w1 W → W.cell? ⟨g0, 0, none⟩ = some (.slice FA fn fc)) := Lib.hid fun W hW => (hW.cell (p := ⟨g0, 0, none⟩) (by rw [← hw1]; simp; omega)).trans (by rw [← hw1, ← hg]; exact (Cells.new w [.slice FA fn fc] _).at_ 0 _ rfl)
  have HBW : Hid (∀ W, Below w1.heap.size w1 W → Below g0 w W ∧ g0 ≤ W.heap.size) := Lib.hid fun W hW => by
    have h1 := hb1.size
    have h2 : Below g0 w W := hb1.trans (hW.mono (by omega))
    exact ⟨h2, by have := h2.size; omega⟩
  have hgE : Hid (w.heap.size = g0 ∧ B ≤ g0) := Lib.hid ⟨hg, by omega⟩
  have cE : Hid (∀ W, Below w1.heap.size w1 W → Calls Try.prog 6 #[.agg #[.slice FA fn fc]] W (IsEd codes fn W)) := Lib.hid fun W hW => edges_any B FA fn fc codes W (h.keep ((HBW.out W hW).1.mono (by omega))) (by have := (HBW.out W hW).2; omega) hfn hS
  have q0 := EQ.out w1 (Below.refl _ _)
  have hmm := @run_makeMap Try.prog
  have hmf : ∀ (fn : Fn) (first cap : Array Value) (w : World), (Instr.makeFunc fn first cap).run Try.prog w = .ok (.func fn first cap) w := fun _ _ _ _ => rfl
  clear h hB hb1 hS hEL
  by_cases hf : 0 ≤ f ∧ f < (fn : Int)
  · have cI := Lib.hid (is_any FA fn fc f true (by rw [eq_comm, decide_eq_true_eq]; exact hf) w1)
    obtain ⟨hf0, hf1⟩ := hf
    obtain ⟨i, rfl⟩ : ∃ i : Nat, f = (i : Int) := ⟨f.toNat, by omega⟩
    have HI : Hid (i < fn) := Lib.hid (by omega)
    go_enter Try.func13, Try.ntmps13
    go_wp2_with fail
    refine cI.out.mono ?_
    rintro e w2 ⟨rfl, hb2⟩
    obtain ⟨mb, hmb⟩ : ∃ x, w2.heap.size = x := ⟨_, rfl⟩
    obtain ⟨w4, hw4⟩ : ∃ X, (w2.alloc (.map #[] 0)).alloc (.cells #[.map (some mb)] 54) = X := ⟨_, rfl⟩
    have hb4' : Below w2.heap.size w2 w4 := by rw [← hw4]; exact ((Below.refl _ _).alloc (Nat.le_refl _) _).alloc (by simp) _
    have HB4 : Hid (Below w1.heap.size w1 w4) := Lib.hid (hb2.trans (hb4'.mono hb2.size))
    have HM4 : Hid (MapI w4 mb 0 (.map [])) := Lib.hid (by rw [← hw4, ← hmb]; exact (World.ownsMap_made w2 _ _ _).alloc _)
    have HC4 : Hid (Cells w4 (mb + 1) [.map (some mb)]) := Lib.hid (by
      have h1 := Cells.new (w2.alloc (.map #[] 0)) [.map (some mb)] 54
      have h2 : (w2.alloc (.map #[] 0)).heap.size = mb + 1 := by simp; omega
      rw [h2] at h1
      rw [← hw4]
      exact h1)
    have HMB : Hid (w1.heap.size ≤ mb) := Lib.hid (by rw [← hmb]; exact hb2.size)
    have q0 := EQ.out w4 HB4.out
    have hsz4 : w2.heap.size = mb := hmb
    clear hb2 hb4' cI hw1 hg
    go_wp2_with fail
    refine (cE.out w4 HB4.out).mono ?_
    rintro e w5 ⟨A5, c5, rfl, hgr, hb5⟩
    obtain ⟨eb, heb⟩ : ∃ x, w5.heap.size = x := ⟨_, rfl⟩
    obtain ⟨w6, hw6⟩ : ∃ X, w5.alloc (.cells #[.slice A5 fn c5] 27) = X := ⟨_, rfl⟩
    have hz6 : w6.heap.size = eb + 1 := by rw [← hw6]; simp; omega
    obtain ⟨w7, hw7⟩ : ∃ X, w6.alloc (.cells #[.func (.func 22) #[] #[.pointer (some ⟨mb + 1, 0, none⟩), .pointer (some ⟨eb, 0, none⟩), .pointer (some ⟨eb + 1, 0, none⟩)]] 55) = X := ⟨_, rfl⟩
    have h56 : Below w5.heap.size w5 w6 := by rw [← hw6]; exact bl_one _
    have h67 : Below w6.heap.size w6 w7 := by rw [← hw7]; exact bl_one _
    have h57 : Below w5.heap.size w5 w7 := h56.trans (h67.mono h56.size)
    have h47 : Below w4.heap.size w4 w7 := hb5.trans (h57.mono hb5.size)
    have HB7 : Hid (Below w1.heap.size w1 w7) := Lib.hid (HB4.out.trans (h47.mono HB4.out.size))
    have hM7 : MapI w7 mb 0 (.map []) := HM4.out.kept (row := none) ⟨h47.os, h47.tape, h47.output, h47.size, fun i hi _ => h47.block i hi⟩ (by simp)
    have hcx : Cx w7 mb (mb + 1) eb (eb + 1) fn c5 A5 (edgesU codes fn) eb := by
      refine ⟨(HC4.out.on h47).at_ 0 _ rfl, ?_, ?_, ?_, ?_⟩
      · have h1 := (Cells.new w5 [.slice A5 fn c5] 27).at_ 0 _ rfl
        rw [heb] at h1
        have h2 : w6.cell? ⟨eb, 0, none⟩ = some (.slice A5 fn c5) := by rw [← hw6]; exact h1
        exact (h67.cell (p := ⟨eb, 0, none⟩) (by rw [hz6]; exact Nat.lt_succ_self _)).trans h2
      · have h1 := (Cells.new w6 [.func (.func 22) #[] #[.pointer (some ⟨mb + 1, 0, none⟩), .pointer (some ⟨eb, 0, none⟩), .pointer (some ⟨eb + 1, 0, none⟩)]] 55).at_ 0 _ rfl
        rw [hz6] at h1
        rw [← hw7]
        exact h1
      · rw [heb] at hgr h57
        exact hgr.keep h57
      · have := h57.size; omega
    have q3 := hcx.c3
    have q1 := hcx.c1
    have HCX := Lib.hid hcx
    have HM7 := Lib.hid hM7
    have cW := Lib.hid (walk_any mb (mb + 1) eb (eb + 1) fn c5 A5 (edgesU codes fn) eb hfn HEL.out (fun i => by have := edgesU_max codes fn i; have := HL.out; omega) (fun i x hx => by have := edgesU_in codes fn i x hx; have := HL.out; omega) 50 (fun _ => 0) 0 i (.map []) w7 hcx (mp_start hM7) HI.out (by have := unv_max fn (fun _ => 0); omega) (by have := unv_max fn (fun _ => 0); omega))
    clear hcx hM7 hgr hb5 h56 h67 h57 h47 cE q0 hw4
    go_wp2_with fail
    refine cW.out.mono ?_
    rintro e w8 ⟨⟨v8, rfl⟩, m8, c8, D8, hm8, hw8, hc8, hk8⟩
    have q1 := (HCX.out.keep HM7.out hm8.own hk8).c1
    have HB8 : Hid (Below w1.heap.size w1 w8) := Lib.hid (HB7.out.trans (hk8.below HB7.out.size (fun k hk => by rw [hk]; exact HMB.out)))
    have HR8 : Hid (∀ l : List Int, l.Nodup → (∀ x, x ∈ l ↔ hasI D8 x = true) → ReachL (edgesU codes fn) (i : Int) (sortL l)) := Lib.hid (fun l hnd hmem => ⟨sortL_rising hnd, fun x => by
      have hv : vis (fun _ => 0) = fun _ => false := by funext j; simp [vis]
      rw [hv] at hw8
      rw [sortL_mem, hmem x, hm8.has x, HEL.out]
      have h1 := hw8.all x.toNat
      have h2 : vis m8 x.toNat = true ↔ m8 x.toNat ≠ 0 := by simp [vis]
      have h3 := HI.out
      constructor
      · rintro ⟨a, b, d⟩
        exact ⟨a, by omega, by omega, by rw [Int.toNat_natCast]; exact h1.1 (h2.2 d)⟩
      · rintro ⟨a, _, _, d⟩
        rw [Int.toNat_natCast] at d
        have h4 := d.lt (by rw [HEL.out]; exact h3)
        rw [HEL.out] at h4
        exact ⟨a, by omega, h2.1 (h1.2 d)⟩⟩)
    have cK := Lib.hid (keys_any mb fn D8 w8 hm8.own (by omega))
    clear hm8 hw8 hc8 hk8 cW q3
    go_wp2_with fail
    refine cK.out.mono ?_
    rintro e w9 ⟨A9, m9, c9, l, rfl, hm9, ⟨hnd, hmem⟩, ho9, hb9⟩
    have HF : Hid (ReachL (edgesU codes fn) (i : Int) (sortL l)) := Lib.hid (HR8.out l hnd hmem)
    have HO9 := Lib.hid ho9
    have HB9 : Hid (Below w1.heap.size w1 w9) := Lib.hid (HB8.out.trans (hb9.mono HB8.out.size))
    clear hnd hmem ho9 hb9 cK HR8 q1
    go_wp2_with fail
    go_ret
    exact ⟨A9, m9, c9, _, rfl, by omega, HF.out, own_less HO9.out (by have := HB8.out.size; have := (HBW.out w1 (Below.refl _ _)).2; have := hgE.out.1; omega), by rw [hgE.out.1]; exact (HBW.out w9 HB9.out).1⟩
  · have cI := Lib.hid (is_any FA fn fc f false (by rw [eq_comm, decide_eq_false_iff_not]; exact hf) w1)
    have HN : Hid (ReachL (edgesU codes fn) f []) := Lib.hid (reach_none (by rw [HEL.out]; exact hf))
    clear hf
    go_enter Try.func13, Try.ntmps13
    go_wp2_with fail
    refine cI.out.mono ?_
    rintro e w2 ⟨rfl, hb2⟩
    have HB2 : Hid (Below w1.heap.size w1 w2) := Lib.hid hb2
    clear hb2 cI
    go_wp2_with fail
    go_ret
    exact ⟨none, 0, 0, [], rfl, by omega, HN.out, ⟨rfl, .inl ⟨rfl, rfl⟩⟩, by rw [hgE.out.1]; exact (HBW.out w2 HB2.out).1⟩
end Go.Proofs.Ytjblfdnhmmlbfaa
