/-
  Graphs of programs: the function that a call calls; the program's and the document's.
-/
import Derived.Test.YtjblfdnhmmlbfaaGs0
namespace Go.Proofs.Ytjblfdnhmmlbfaa
open Go.RowKit
set_option linter.unusedSimpArgs false
set_option linter.unusedVariables false
def targetM (codes : List (List DInstr)) (f pc : Int) : Int × Bool :=
  if 0 ≤ f ∧ 0 ≤ pc then
    match (codes[f.toNat]?).bind fun C => C[pc.toNat]? with
    | some x => if x.op = 23 ∧ 0 ≤ x.a ∧ x.a < (codes.length : Int) then (x.a, true) else (0, false)
    | none => (0, false)
  else (0, false)
theorem targetM_neg {codes : List (List DInstr)} {f pc : Int} (h : ¬ (0 ≤ f ∧ 0 ≤ pc)) : targetM codes f pc = (0, false) := by
  unfold targetM
  rw [if_neg h]
theorem targetM_none {codes : List (List DInstr)} {f pc : Int} (h : (codes[f.toNat]?).bind (fun C => C[pc.toNat]?) = none) : targetM codes f pc = (0, false) := by
  unfold targetM
  rw [h]
  split <;> rfl
theorem targetM_some {codes : List (List DInstr)} {i k : Nat} {C : List DInstr} {x : DInstr} (h : codes[i]? = some C) (hx : C[k]? = some x) : targetM codes (i : Int) (k : Int) = if x.op = 23 ∧ 0 ≤ x.a ∧ x.a < (codes.length : Int) then (x.a, true) else (0, false) := by
  unfold targetM
  rw [if_pos ⟨by omega, by omega⟩]
  simp [h, hx]
def IsT (r : Int × Bool) (w : World) (e : Ending) (w' : World) : Prop := e = .returned (.tuple #[.int .i64 r.1, .bool r.2]) ∧ Below w.heap.size w w'

set_option maxRecDepth 100000 in
set_option maxHeartbeats 4000000 in
theorem target_any (B : Nat) (FA : Option Addr) (fn fc : Nat) (codes : List (List DInstr)) (f pc : Int) (w : World) (h : PgW w B FA fn fc codes) (hB : B ≤ w.heap.size) :
    Calls Try.prog 16 #[.agg #[.slice FA fn fc], .agg #[.int .i64 f, .int .i64 pc]] w (IsT (targetM codes f pc) w) := by
  have HL : Hid (codes.length = fn) := Lib.hid h.1
  obtain ⟨g, hg⟩ : ∃ g, w.heap.size = g := ⟨_, rfl⟩
  obtain ⟨w2, hw2⟩ : ∃ X, (w.alloc (.cells #[.slice FA fn fc] 24)).alloc (.cells #[.int .i64 f, .int .i64 pc] 47) = X := ⟨_, rfl⟩
  have hs1 : (w.alloc (.cells #[.slice FA fn fc] 24)).heap.size = g + 1 := by rw [← hg]; simp
  have x2 : Cells w2 g [.slice FA fn fc] := by rw [← hw2, ← hg]; exact (Cells.new w [.slice FA fn fc] _).on (bl_one _)
  have y2 : Cells w2 (g + 1) [.int .i64 f, .int .i64 pc] := by rw [← hw2, ← hs1]; exact Cells.new _ [.int .i64 f, .int .i64 pc] _
  have hb2 : Below w.heap.size w w2 := by rw [← hw2]; exact (bl_one _).alloc (by simp) _
  have HB := Lib.hid hb2
  have EQ : Hid (∀ W, Below w2.heap.size w2 W → W.cell? ⟨g, 0, none⟩ = some (.slice FA fn fc) ∧ W.cell? ⟨g + 1, 0, none⟩ = some (.int .i64 f) ∧ W.cell? ⟨g + 1, 1, none⟩ = some (.int .i64 pc)) := Lib.hid fun W hW => ⟨(x2.on hW).at_ 0 _ rfl, (y2.on hW).at_ 0 _ rfl, (y2.on hW).at_ 1 _ rfl⟩
  obtain ⟨p0, p1, p2⟩ := EQ.out w2 (Below.refl _ _)
  have HP2 : Hid (PgW w2 B FA fn fc codes) := Lib.hid (h.keep (hb2.mono hB))
  have HBs : Hid (B ≤ w2.heap.size) := Lib.hid (by have := hb2.size; omega)
  clear x2 y2 hb2
  by_cases hf : 0 ≤ f ∧ f < (fn : Int)
  · obtain ⟨hf0, hf1⟩ := hf
    by_cases hp0 : 0 ≤ pc
    · obtain ⟨i, rfl⟩ : ∃ i : Nat, f = (i : Int) := ⟨f.toNat, by omega⟩
      obtain ⟨k, rfl⟩ : ∃ k : Nat, pc = (k : Int) := ⟨pc.toNat, by omega⟩
      obtain ⟨b, off, Ac, nc, cc, C, rfl, hbB, hC, hcell, hsl⟩ := HP2.out.at_ (show i < fn by omega)
      have EC : Hid (∀ W, Below w2.heap.size w2 W → W.cell? ⟨b, off + i * 11 + 6, none⟩ = some (.slice Ac nc cc)) := Lib.hid fun W hW => (hW.cell (p := ⟨b, off + i * 11 + 6, none⟩) (by have := HBs.out; show b < _; omega)).trans hcell
      have t1 : decide ((k : Int) < 0) = false := by simp
      by_cases hk : k < nc
      · obtain ⟨b2, off2, x, rfl, hb2B, hx, hx0, hx1⟩ := code_at hsl hk
        have EI : Hid (∀ W, Below w2.heap.size w2 W → W.cell? ⟨b2, off2 + k * 2, none⟩ = some (.int .i64 x.op) ∧ W.cell? ⟨b2, off2 + k * 2 + 1, none⟩ = some (.int .i64 x.a)) := Lib.hid fun W hW => ⟨(hW.cell (p := ⟨b2, off2 + k * 2, none⟩) (by have := HBs.out; show b2 < _; omega)).trans hx0, (hW.cell (p := ⟨b2, off2 + k * 2 + 1, none⟩) (by have := HBs.out; show b2 < _; omega)).trans hx1⟩
        have HT : Hid (targetM codes (i : Int) (k : Int) = if x.op = 23 ∧ 0 ≤ x.a ∧ x.a < (fn : Int) then (x.a, true) else (0, false)) := Lib.hid (by rw [targetM_some hC hx, HL.out])
        have t2 : decide ((k : Int) ≥ (nc : Int)) = false := by simp; omega
        have hi0 : (0 : Int) ≤ (i : Int) := by omega
        have hk0 : (0 : Int) ≤ (k : Int) := by omega
        have hkn : (k : Int) < (nc : Int) := by omega
        have hkn2 : ¬ (nc : Int) ≤ (k : Int) := by omega
        obtain ⟨xo, xa⟩ := x
        dsimp only at EI HT
        clear hx0 hx1 hx hcell hsl hC hb2B hbB h

        go_enter Try.func16, Try.ntmps16
        go_wp2_with fail
        refine wp_region_held (S := fun W => Below w2.heap.size w2 W) (by kernel_rfl) ?_
        change wpAnyH _ _ _ _ _ _ _ _ (World.drew _)
        have hS : Below w2.heap.size w2 w2.drew := (Below.refl _ _).drew
        refine wpAnyH_take (i := 0) (v := .agg #[.slice (some ⟨b, off, none⟩) fn fc]) rfl (by kernel_rfl) (by kernel_rfl) (by kernel_rfl) (fun _ _ _ h => h) (Or.inl ⟨by rfl, by intro W hW; obtain ⟨q0, q1, q2⟩ := EQ.out W hW; go_simp; try (first | (with_reducible rfl) | omega)⟩) hS ?_
        refine wpAnyH_take (i := 1) (v := .pointer (some ⟨g + 1, 0, none⟩)) rfl (by kernel_rfl) (by kernel_rfl) (by kernel_rfl) (fun _ _ _ h => h) (Or.inl ⟨by rfl, by intro W hW; go_simp; try (first | (with_reducible rfl) | omega)⟩) hS ?_
        try go_simp
        refine wpAnyH_take (i := 2) (v := .int .i64 (i : Int)) rfl (by kernel_rfl) (by kernel_rfl) (by kernel_rfl) (fun _ _ _ h => h) (Or.inl ⟨by rfl, by intro W hW; obtain ⟨q0, q1, q2⟩ := EQ.out W hW; go_simp; try (first | (with_reducible rfl) | omega)⟩) hS ?_
        refine wpAnyH_one (i := 3) (by kernel_rfl) rfl (fun K hK => ?_)
        go_simp
        refine (is_any _ fn fc _ true (by rw [eq_comm, decide_eq_true_eq]; omega) _).mono ?_
        rintro e w3 ⟨rfl, hb3⟩
        have hS : Below w2.heap.size w2 w3 := hS.trans hb3
        go_simp
        refine hK _ _ ⟨hS, ?_⟩; clear hK K
        refine wpAnyH_one (i := 4) (by kernel_rfl) rfl (fun K hK => ?_)
        go_simp
        refine hK _ _ ⟨hS, ?_⟩; clear hK K
        refine wpAnyH_one (i := 5) (by kernel_rfl) rfl (fun K hK => ?_)
        go_simp
        refine hK _ _ ⟨hS, ?_⟩; clear hK K
        refine wpAnyH_take (i := 6) (v := .pointer (some ⟨g + 1, 1, none⟩)) rfl (by kernel_rfl) (by kernel_rfl) (by kernel_rfl) (fun _ _ _ h => h) (Or.inl ⟨by rfl, by intro W hW; go_simp; try (first | (with_reducible rfl) | omega)⟩) hS ?_
        refine wpAnyH_take (i := 7) (v := .int .i64 (k : Int)) rfl (by kernel_rfl) (by kernel_rfl) (by kernel_rfl) (fun _ _ _ h => h) (Or.inl ⟨by rfl, by intro W hW; obtain ⟨q0, q1, q2⟩ := EQ.out W hW; go_simp; try (first | (with_reducible rfl) | omega)⟩) hS ?_
        try go_simp
        refine wpAnyH_take (i := 8) (v := .bool false) rfl (by kernel_rfl) (by kernel_rfl) (by kernel_rfl) (fun _ _ _ h => h) (Or.inl ⟨by rfl, by intro W hW; go_simp; try (first | (with_reducible rfl) | omega)⟩) hS ?_
        refine wpAnyH_take (i := 9) (v := .bool false) rfl (by kernel_rfl) (by kernel_rfl) (by kernel_rfl) (fun _ _ _ h => h) (Or.inl ⟨by rfl, by intro W hW; go_simp; try (first | (with_reducible rfl) | omega)⟩) hS ?_
        refine wpAnyH_take (i := 10) (v := .bool false) rfl (by kernel_rfl) (by kernel_rfl) (by kernel_rfl) (fun _ _ _ h => h) (Or.inl ⟨by rfl, by intro W hW; go_simp; try (first | (with_reducible rfl) | omega)⟩) hS ?_
        try go_simp
        refine wpAnyH_take (i := 11) (v := .pointer (some ⟨g + 1, 1, none⟩)) rfl (by kernel_rfl) (by kernel_rfl) (by kernel_rfl) (fun _ _ _ h => h) (Or.inl ⟨by rfl, by intro W hW; go_simp; try (first | (with_reducible rfl) | omega)⟩) hS ?_
        refine wpAnyH_take (i := 12) (v := .int .i64 (k : Int)) rfl (by kernel_rfl) (by kernel_rfl) (by kernel_rfl) (fun _ _ _ h => h) (Or.inl ⟨by rfl, by intro W hW; obtain ⟨q0, q1, q2⟩ := EQ.out W hW; go_simp; try (first | (with_reducible rfl) | omega)⟩) hS ?_
        refine wpAnyH_take (i := 13) (v := .pointer (some ⟨g, 0, none⟩)) rfl (by kernel_rfl) (by kernel_rfl) (by kernel_rfl) (fun _ _ _ h => h) (Or.inl ⟨by rfl, by intro W hW; go_simp; try (first | (with_reducible rfl) | omega)⟩) hS ?_
        try go_simp
        refine wpAnyH_take (i := 14) (v := .slice (some ⟨b, off, none⟩) fn fc) rfl (by kernel_rfl) (by kernel_rfl) (by kernel_rfl) (fun _ _ _ h => h) (Or.inl ⟨by rfl, by intro W hW; obtain ⟨q0, q1, q2⟩ := EQ.out W hW; go_simp; try (first | (with_reducible rfl) | omega)⟩) hS ?_
        refine wpAnyH_take (i := 15) (v := .pointer (some ⟨g + 1, 0, none⟩)) rfl (by kernel_rfl) (by kernel_rfl) (by kernel_rfl) (fun _ _ _ h => h) (Or.inl ⟨by rfl, by intro W hW; go_simp; try (first | (with_reducible rfl) | omega)⟩) hS ?_
        refine wpAnyH_take (i := 16) (v := .int .i64 (i : Int)) rfl (by kernel_rfl) (by kernel_rfl) (by kernel_rfl) (fun _ _ _ h => h) (Or.inl ⟨by rfl, by intro W hW; obtain ⟨q0, q1, q2⟩ := EQ.out W hW; go_simp; try (first | (with_reducible rfl) | omega)⟩) hS ?_
        try go_simp
        refine wpAnyH_take (i := 17) (v := .pointer (some ⟨b, off + i * 11, none⟩)) rfl (by kernel_rfl) (by kernel_rfl) (by kernel_rfl) (fun _ _ _ h => h) (Or.inl ⟨by rfl, by intro W hW; go_simp; try (first | (with_reducible rfl) | omega)⟩) hS ?_
        refine wpAnyH_take (i := 18) (v := .pointer (some ⟨b, off + i * 11 + 6, none⟩)) rfl (by kernel_rfl) (by kernel_rfl) (by kernel_rfl) (fun _ _ _ h => h) (Or.inl ⟨by rfl, by intro W hW; go_simp; try (first | (with_reducible rfl) | omega)⟩) hS ?_
        refine wpAnyH_take (i := 19) (v := .slice (some ⟨b2, off2, none⟩) nc cc) rfl (by kernel_rfl) (by kernel_rfl) (by kernel_rfl) (fun _ _ _ h => h) (Or.inl ⟨by rfl, by intro W hW; have q3 := EC.out W hW; go_simp; try (first | (with_reducible rfl) | omega)⟩) hS ?_
        try go_simp
        refine wpAnyH_take (i := 20) (v := .int .i64 (nc : Int)) rfl (by kernel_rfl) (by kernel_rfl) (by kernel_rfl) (fun _ _ _ h => h) (Or.inl ⟨by rfl, by intro W hW; go_simp; try (first | (with_reducible rfl) | omega)⟩) hS ?_
        refine wpAnyH_take (i := 21) (v := .bool false) rfl (by kernel_rfl) (by kernel_rfl) (by kernel_rfl) (fun _ _ _ h => h) (Or.inl ⟨by rfl, by intro W hW; go_simp; try (first | (with_reducible rfl) | omega)⟩) hS ?_
        refine wpAnyH_take (i := 22) (v := .bool false) rfl (by kernel_rfl) (by kernel_rfl) (by kernel_rfl) (fun _ _ _ h => h) (Or.inl ⟨by rfl, by intro W hW; go_simp; try (first | (with_reducible rfl) | omega)⟩) hS ?_
        try go_simp
        refine wpAnyH_done (by kernel_rfl) ?_ _
        have HB3 : Hid (Below w2.heap.size w2 w3) := Lib.hid hS
        clear hS hb3
        go_simp
        go_wp2_with fail
        obtain ⟨q0, q1, q2⟩ := EQ.out w3 HB3.out
        have q3 := EC.out w3 HB3.out
        obtain ⟨q4, q5⟩ := EI.out w3 HB3.out
        have z1 : g < w3.heap.size := World.block_lt_of_cell? _ _ q0
        have z2 : g + 1 < w3.heap.size := World.block_lt_of_cell? _ _ q1
        have z3 : b < w3.heap.size := World.block_lt_of_cell? _ _ q3
        have z4 : b2 < w3.heap.size := World.block_lt_of_cell? _ _ q4
        have HB4 : Hid (Below w2.heap.size w2 (w3.alloc (.cells #[.int .i64 xo, .int .i64 xa] 53)).drew) := Lib.hid ((HB3.out.alloc HB3.out.size _).drew)
        have HI : Hid (∀ q v, [Value.int .i64 xo, .int .i64 xa][q]? = some v → (w3.alloc (.cells #[.int .i64 xo, .int .i64 xa] 53)).drew.cell? ⟨w3.heap.size, q, none⟩ = some v) := Lib.hid fun q v hv => (new_cells (Below.refl _ _).drew q v (by simpa using hv)).1
        go_region
        go_simp
        apply_assumption
        obtain ⟨w4, hw4⟩ : ∃ X, (w3.alloc (.cells #[.int .i64 xo, .int .i64 xa] 53)).drew = X := ⟨_, rfl⟩
        obtain ⟨g4, hg4⟩ : ∃ X, w3.heap.size = X := ⟨_, rfl⟩
        rw [hg4] at HI
        rw [hw4] at HI HB4
        simp only [hg4, hw4]
        clear hw4 hg4 q0 q1 q2 q3 q4 q5 z1 z2 z3 z4 p0 p1 p2
        have q0 := (EQ.out w4 HB4.out).1
        have q1 := HI.out 0 _ rfl
        have q2 := HI.out 1 _ rfl
        by_cases ho : xo = 23
        · subst ho
          by_cases ha : 0 ≤ xa ∧ xa < (fn : Int)
          · have HT2 : Hid (targetM codes (i : Int) (k : Int) = (xa, true)) := Lib.hid (by rw [HT.out, if_pos ⟨rfl, ha⟩])
            have cI := Lib.hid (is_any (some ⟨b, off, none⟩) fn fc xa true (by rw [eq_comm, decide_eq_true_eq]; exact ha) w4)
            clear HT ha
            go_wp2_with fail
            refine cI.out.mono ?_
            rintro e w5 ⟨rfl, hb5⟩
            have HB5 : Hid (Below w2.heap.size w2 w5) := Lib.hid (HB4.out.trans (hb5.mono HB4.out.size))
            have q2 := (hb5.cell (p := ⟨g4, 1, none⟩) (World.block_lt_of_cell? _ _ q2)).trans q2
            clear hb5 cI
            go_wp2_with fail
            go_ret2
            exact ⟨by rw [HT2.out]; rfl, HB.out.trans (HB5.out.mono HB.out.size)⟩
          · have HT2 : Hid (targetM codes (i : Int) (k : Int) = (0, false)) := Lib.hid (by rw [HT.out, if_neg (fun h => ha h.2)])
            have cI := Lib.hid (is_any (some ⟨b, off, none⟩) fn fc xa false (by rw [eq_comm, decide_eq_false_iff_not]; exact ha) w4)
            clear HT ha
            go_wp2_with fail
            refine cI.out.mono ?_
            rintro e w5 ⟨rfl, hb5⟩
            have HB5 : Hid (Below w2.heap.size w2 w5) := Lib.hid (HB4.out.trans (hb5.mono HB4.out.size))
            clear hb5 cI
            go_wp2_with fail
            go_ret2
            exact ⟨by rw [HT2.out]; rfl, HB.out.trans (HB5.out.mono HB.out.size)⟩
        · have HT2 : Hid (targetM codes (i : Int) (k : Int) = (0, false)) := Lib.hid (by rw [HT.out, if_neg (fun h => ho h.1)])
          have t4 : (xo == 23) = false := by simpa using ho
          have t5 : (xo != 23) = true := by simpa using ho
          clear HT ho
          go_wp2_with fail
          go_ret2
          exact ⟨by rw [HT2.out]; rfl, HB.out.trans (HB4.out.mono HB.out.size)⟩

      · have HT : Hid (targetM codes (i : Int) (k : Int) = (0, false)) := Lib.hid (targetM_none (by simp [hC, List.getElem?_eq_none (show C.length ≤ k by rw [hsl.1]; omega)]))
        have t2 : decide ((k : Int) ≥ (nc : Int)) = true := by simp; omega
        have hi0 : (0 : Int) ≤ (i : Int) := by omega
        have hkn : (nc : Int) ≤ (k : Int) := by omega
        clear hcell hsl hC hbB h
        go_enter Try.func16, Try.ntmps16
        go_wp2_with fail
        refine wp_region_held (S := fun W => Below w2.heap.size w2 W) (by kernel_rfl) ?_
        change wpAnyH _ _ _ _ _ _ _ _ (World.drew _)
        have hS : Below w2.heap.size w2 w2.drew := (Below.refl _ _).drew
        refine wpAnyH_take (i := 0) (v := .agg #[.slice (some ⟨b, off, none⟩) fn fc]) rfl (by kernel_rfl) (by kernel_rfl) (by kernel_rfl) (fun _ _ _ h => h) (Or.inl ⟨by rfl, by intro W hW; obtain ⟨q0, q1, q2⟩ := EQ.out W hW; go_simp; try (first | (with_reducible rfl) | omega)⟩) hS ?_
        refine wpAnyH_take (i := 1) (v := .pointer (some ⟨g + 1, 0, none⟩)) rfl (by kernel_rfl) (by kernel_rfl) (by kernel_rfl) (fun _ _ _ h => h) (Or.inl ⟨by rfl, by intro W hW; go_simp; try (first | (with_reducible rfl) | omega)⟩) hS ?_
        try go_simp
        refine wpAnyH_take (i := 2) (v := .int .i64 (i : Int)) rfl (by kernel_rfl) (by kernel_rfl) (by kernel_rfl) (fun _ _ _ h => h) (Or.inl ⟨by rfl, by intro W hW; obtain ⟨q0, q1, q2⟩ := EQ.out W hW; go_simp; try (first | (with_reducible rfl) | omega)⟩) hS ?_
        refine wpAnyH_one (i := 3) (by kernel_rfl) rfl (fun K hK => ?_)
        go_simp
        refine (is_any _ fn fc _ true (by rw [eq_comm, decide_eq_true_eq]; omega) _).mono ?_
        rintro e w3 ⟨rfl, hb3⟩
        have hS : Below w2.heap.size w2 w3 := hS.trans hb3
        go_simp
        refine hK _ _ ⟨hS, ?_⟩; clear hK K
        refine wpAnyH_one (i := 4) (by kernel_rfl) rfl (fun K hK => ?_)
        go_simp
        refine hK _ _ ⟨hS, ?_⟩; clear hK K
        refine wpAnyH_one (i := 5) (by kernel_rfl) rfl (fun K hK => ?_)
        go_simp
        refine hK _ _ ⟨hS, ?_⟩; clear hK K
        refine wpAnyH_take (i := 6) (v := .pointer (some ⟨g + 1, 1, none⟩)) rfl (by kernel_rfl) (by kernel_rfl) (by kernel_rfl) (fun _ _ _ h => h) (Or.inl ⟨by rfl, by intro W hW; go_simp; try (first | (with_reducible rfl) | omega)⟩) hS ?_
        refine wpAnyH_take (i := 7) (v := .int .i64 (k : Int)) rfl (by kernel_rfl) (by kernel_rfl) (by kernel_rfl) (fun _ _ _ h => h) (Or.inl ⟨by rfl, by intro W hW; obtain ⟨q0, q1, q2⟩ := EQ.out W hW; go_simp; try (first | (with_reducible rfl) | omega)⟩) hS ?_
        try go_simp
        refine wpAnyH_take (i := 8) (v := .bool false) rfl (by kernel_rfl) (by kernel_rfl) (by kernel_rfl) (fun _ _ _ h => h) (Or.inl ⟨by rfl, by intro W hW; go_simp; try (first | (with_reducible rfl) | omega)⟩) hS ?_
        refine wpAnyH_take (i := 9) (v := .bool false) rfl (by kernel_rfl) (by kernel_rfl) (by kernel_rfl) (fun _ _ _ h => h) (Or.inl ⟨by rfl, by intro W hW; go_simp; try (first | (with_reducible rfl) | omega)⟩) hS ?_
        refine wpAnyH_take (i := 10) (v := .bool false) rfl (by kernel_rfl) (by kernel_rfl) (by kernel_rfl) (fun _ _ _ h => h) (Or.inl ⟨by rfl, by intro W hW; go_simp; try (first | (with_reducible rfl) | omega)⟩) hS ?_
        try go_simp
        refine wpAnyH_take (i := 11) (v := .pointer (some ⟨g + 1, 1, none⟩)) rfl (by kernel_rfl) (by kernel_rfl) (by kernel_rfl) (fun _ _ _ h => h) (Or.inl ⟨by rfl, by intro W hW; go_simp; try (first | (with_reducible rfl) | omega)⟩) hS ?_
        refine wpAnyH_take (i := 12) (v := .int .i64 (k : Int)) rfl (by kernel_rfl) (by kernel_rfl) (by kernel_rfl) (fun _ _ _ h => h) (Or.inl ⟨by rfl, by intro W hW; obtain ⟨q0, q1, q2⟩ := EQ.out W hW; go_simp; try (first | (with_reducible rfl) | omega)⟩) hS ?_
        refine wpAnyH_take (i := 13) (v := .pointer (some ⟨g, 0, none⟩)) rfl (by kernel_rfl) (by kernel_rfl) (by kernel_rfl) (fun _ _ _ h => h) (Or.inl ⟨by rfl, by intro W hW; go_simp; try (first | (with_reducible rfl) | omega)⟩) hS ?_
        try go_simp
        refine wpAnyH_take (i := 14) (v := .slice (some ⟨b, off, none⟩) fn fc) rfl (by kernel_rfl) (by kernel_rfl) (by kernel_rfl) (fun _ _ _ h => h) (Or.inl ⟨by rfl, by intro W hW; obtain ⟨q0, q1, q2⟩ := EQ.out W hW; go_simp; try (first | (with_reducible rfl) | omega)⟩) hS ?_
        refine wpAnyH_take (i := 15) (v := .pointer (some ⟨g + 1, 0, none⟩)) rfl (by kernel_rfl) (by kernel_rfl) (by kernel_rfl) (fun _ _ _ h => h) (Or.inl ⟨by rfl, by intro W hW; go_simp; try (first | (with_reducible rfl) | omega)⟩) hS ?_
        refine wpAnyH_take (i := 16) (v := .int .i64 (i : Int)) rfl (by kernel_rfl) (by kernel_rfl) (by kernel_rfl) (fun _ _ _ h => h) (Or.inl ⟨by rfl, by intro W hW; obtain ⟨q0, q1, q2⟩ := EQ.out W hW; go_simp; try (first | (with_reducible rfl) | omega)⟩) hS ?_
        try go_simp
        refine wpAnyH_take (i := 17) (v := .pointer (some ⟨b, off + i * 11, none⟩)) rfl (by kernel_rfl) (by kernel_rfl) (by kernel_rfl) (fun _ _ _ h => h) (Or.inl ⟨by rfl, by intro W hW; go_simp; try (first | (with_reducible rfl) | omega)⟩) hS ?_
        refine wpAnyH_take (i := 18) (v := .pointer (some ⟨b, off + i * 11 + 6, none⟩)) rfl (by kernel_rfl) (by kernel_rfl) (by kernel_rfl) (fun _ _ _ h => h) (Or.inl ⟨by rfl, by intro W hW; go_simp; try (first | (with_reducible rfl) | omega)⟩) hS ?_
        refine wpAnyH_take (i := 19) (v := .slice Ac nc cc) rfl (by kernel_rfl) (by kernel_rfl) (by kernel_rfl) (fun _ _ _ h => h) (Or.inl ⟨by rfl, by intro W hW; have q3 := EC.out W hW; go_simp; try (first | (with_reducible rfl) | omega)⟩) hS ?_
        try go_simp
        refine wpAnyH_take (i := 20) (v := .int .i64 (nc : Int)) rfl (by kernel_rfl) (by kernel_rfl) (by kernel_rfl) (fun _ _ _ h => h) (Or.inl ⟨by rfl, by intro W hW; go_simp; try (first | (with_reducible rfl) | omega)⟩) hS ?_
        refine wpAnyH_take (i := 21) (v := .bool true) rfl (by kernel_rfl) (by kernel_rfl) (by kernel_rfl) (fun _ _ _ h => h) (Or.inl ⟨by rfl, by intro W hW; go_simp; try (first | (with_reducible rfl) | omega)⟩) hS ?_
        refine wpAnyH_take (i := 22) (v := .bool true) rfl (by kernel_rfl) (by kernel_rfl) (by kernel_rfl) (fun _ _ _ h => h) (Or.inl ⟨by rfl, by intro W hW; go_simp; try (first | (with_reducible rfl) | omega)⟩) hS ?_
        try go_simp
        refine wpAnyH_done (by kernel_rfl) ?_ _
        have HB3 : Hid (Below w2.heap.size w2 w3) := Lib.hid hS
        clear hS hb3
        go_simp
        go_wp2_with fail
        go_ret2
        exact ⟨by rw [HT.out]; rfl, HB.out.trans (HB3.out.mono HB.out.size)⟩
    · have HT : Hid (targetM codes f pc = (0, false)) := Lib.hid (targetM_neg (by omega))
      have t1 : decide (pc < 0) = true := by simpa using hp0
      have hp1 : pc < 0 := by omega
      go_enter Try.func16, Try.ntmps16
      go_wp2_with fail
      refine wp_region_held (S := fun W => Below w2.heap.size w2 W) (by kernel_rfl) ?_
      change wpAnyH _ _ _ _ _ _ _ _ (World.drew _)
      have hS : Below w2.heap.size w2 w2.drew := (Below.refl _ _).drew
      refine wpAnyH_take (i := 0) (v := .agg #[.slice FA fn fc]) rfl (by kernel_rfl) (by kernel_rfl) (by kernel_rfl) (fun _ _ _ h => h) (Or.inl ⟨by rfl, by intro W hW; obtain ⟨q0, q1, q2⟩ := EQ.out W hW; go_simp; try (first | (with_reducible rfl) | omega)⟩) hS ?_
      refine wpAnyH_take (i := 1) (v := .pointer (some ⟨g + 1, 0, none⟩)) rfl (by kernel_rfl) (by kernel_rfl) (by kernel_rfl) (fun _ _ _ h => h) (Or.inl ⟨by rfl, by intro W hW; go_simp; try (first | (with_reducible rfl) | omega)⟩) hS ?_
      try go_simp
      refine wpAnyH_take (i := 2) (v := .int .i64 f) rfl (by kernel_rfl) (by kernel_rfl) (by kernel_rfl) (fun _ _ _ h => h) (Or.inl ⟨by rfl, by intro W hW; obtain ⟨q0, q1, q2⟩ := EQ.out W hW; go_simp; try (first | (with_reducible rfl) | omega)⟩) hS ?_
      refine wpAnyH_one (i := 3) (by kernel_rfl) rfl (fun K hK => ?_)
      go_simp
      refine (is_any _ fn fc _ true (by rw [eq_comm, decide_eq_true_eq]; omega) _).mono ?_
      rintro e w3 ⟨rfl, hb3⟩
      have hS : Below w2.heap.size w2 w3 := hS.trans hb3
      go_simp
      refine hK _ _ ⟨hS, ?_⟩; clear hK K
      refine wpAnyH_one (i := 4) (by kernel_rfl) rfl (fun K hK => ?_)
      go_simp
      refine hK _ _ ⟨hS, ?_⟩; clear hK K
      refine wpAnyH_one (i := 5) (by kernel_rfl) rfl (fun K hK => ?_)
      go_simp
      refine hK _ _ ⟨hS, ?_⟩; clear hK K
      refine wpAnyH_take (i := 6) (v := .pointer (some ⟨g + 1, 1, none⟩)) rfl (by kernel_rfl) (by kernel_rfl) (by kernel_rfl) (fun _ _ _ h => h) (Or.inl ⟨by rfl, by intro W hW; go_simp; try (first | (with_reducible rfl) | omega)⟩) hS ?_
      refine wpAnyH_take (i := 7) (v := .int .i64 pc) rfl (by kernel_rfl) (by kernel_rfl) (by kernel_rfl) (fun _ _ _ h => h) (Or.inl ⟨by rfl, by intro W hW; obtain ⟨q0, q1, q2⟩ := EQ.out W hW; go_simp; try (first | (with_reducible rfl) | omega)⟩) hS ?_
      try go_simp
      refine wpAnyH_take (i := 8) (v := .bool true) rfl (by kernel_rfl) (by kernel_rfl) (by kernel_rfl) (fun _ _ _ h => h) (Or.inl ⟨by rfl, by intro W hW; go_simp; try (first | (with_reducible rfl) | omega)⟩) hS ?_
      refine wpAnyH_take (i := 9) (v := .bool true) rfl (by kernel_rfl) (by kernel_rfl) (by kernel_rfl) (fun _ _ _ h => h) (Or.inl ⟨by rfl, by intro W hW; go_simp; try (first | (with_reducible rfl) | omega)⟩) hS ?_
      refine wpAnyH_take (i := 10) (v := .bool true) rfl (by kernel_rfl) (by kernel_rfl) (by kernel_rfl) (fun _ _ _ h => h) (Or.inl ⟨by rfl, by intro W hW; go_simp; try (first | (with_reducible rfl) | omega)⟩) hS ?_
      try go_simp
      refine wpAnyH_take (i := 11) (v := undef) rfl (by kernel_rfl) (by kernel_rfl) (by kernel_rfl) (fun _ _ _ h => h) (Or.inr ⟨by rfl, rfl⟩) hS ?_
      refine wpAnyH_take (i := 12) (v := undef) rfl (by kernel_rfl) (by kernel_rfl) (by kernel_rfl) (fun _ _ _ h => h) (Or.inr ⟨by rfl, rfl⟩) hS ?_
      refine wpAnyH_take (i := 13) (v := undef) rfl (by kernel_rfl) (by kernel_rfl) (by kernel_rfl) (fun _ _ _ h => h) (Or.inr ⟨by rfl, rfl⟩) hS ?_
      try go_simp
      refine wpAnyH_take (i := 14) (v := undef) rfl (by kernel_rfl) (by kernel_rfl) (by kernel_rfl) (fun _ _ _ h => h) (Or.inr ⟨by rfl, rfl⟩) hS ?_
      refine wpAnyH_take (i := 15) (v := undef) rfl (by kernel_rfl) (by kernel_rfl) (by kernel_rfl) (fun _ _ _ h => h) (Or.inr ⟨by rfl, rfl⟩) hS ?_
      refine wpAnyH_take (i := 16) (v := undef) rfl (by kernel_rfl) (by kernel_rfl) (by kernel_rfl) (fun _ _ _ h => h) (Or.inr ⟨by rfl, rfl⟩) hS ?_
      try go_simp
      refine wpAnyH_take (i := 17) (v := undef) rfl (by kernel_rfl) (by kernel_rfl) (by kernel_rfl) (fun _ _ _ h => h) (Or.inr ⟨by rfl, rfl⟩) hS ?_
      refine wpAnyH_take (i := 18) (v := undef) rfl (by kernel_rfl) (by kernel_rfl) (by kernel_rfl) (fun _ _ _ h => h) (Or.inr ⟨by rfl, rfl⟩) hS ?_
      refine wpAnyH_take (i := 19) (v := undef) rfl (by kernel_rfl) (by kernel_rfl) (by kernel_rfl) (fun _ _ _ h => h) (Or.inr ⟨by rfl, rfl⟩) hS ?_
      try go_simp
      refine wpAnyH_take (i := 20) (v := undef) rfl (by kernel_rfl) (by kernel_rfl) (by kernel_rfl) (fun _ _ _ h => h) (Or.inr ⟨by rfl, rfl⟩) hS ?_
      refine wpAnyH_take (i := 21) (v := undef) rfl (by kernel_rfl) (by kernel_rfl) (by kernel_rfl) (fun _ _ _ h => h) (Or.inr ⟨by rfl, rfl⟩) hS ?_
      refine wpAnyH_take (i := 22) (v := .bool true) rfl (by kernel_rfl) (by kernel_rfl) (by kernel_rfl) (fun _ _ _ h => h) (Or.inl ⟨by rfl, by intro W hW; go_simp; try (first | (with_reducible rfl) | omega)⟩) hS ?_
      try go_simp
      refine wpAnyH_done (by kernel_rfl) ?_ _
      have HB3 : Hid (Below w2.heap.size w2 w3) := Lib.hid hS
      clear hS hb3
      go_simp
      go_wp2_with fail
      go_ret2
      exact ⟨by rw [HT.out]; rfl, HB.out.trans (HB3.out.mono HB.out.size)⟩
  · have HT : Hid (targetM codes f pc = (0, false)) := Lib.hid (by
      by_cases hp : 0 ≤ f ∧ 0 ≤ pc
      · exact targetM_none (by rw [List.getElem?_eq_none (by have := HL.out; omega)]; rfl)
      · exact targetM_neg hp)
    go_enter Try.func16, Try.ntmps16
    go_wp2_with fail
    refine wp_region_held (S := fun W => Below w2.heap.size w2 W) (by kernel_rfl) ?_
    change wpAnyH _ _ _ _ _ _ _ _ (World.drew _)
    have hS : Below w2.heap.size w2 w2.drew := (Below.refl _ _).drew
    refine wpAnyH_take (i := 0) (v := .agg #[.slice FA fn fc]) rfl (by kernel_rfl) (by kernel_rfl) (by kernel_rfl) (fun _ _ _ h => h) (Or.inl ⟨by rfl, by intro W hW; obtain ⟨q0, q1, q2⟩ := EQ.out W hW; go_simp; try (first | (with_reducible rfl) | omega)⟩) hS ?_
    refine wpAnyH_take (i := 1) (v := .pointer (some ⟨g + 1, 0, none⟩)) rfl (by kernel_rfl) (by kernel_rfl) (by kernel_rfl) (fun _ _ _ h => h) (Or.inl ⟨by rfl, by intro W hW; go_simp; try (first | (with_reducible rfl) | omega)⟩) hS ?_
    try go_simp
    refine wpAnyH_take (i := 2) (v := .int .i64 f) rfl (by kernel_rfl) (by kernel_rfl) (by kernel_rfl) (fun _ _ _ h => h) (Or.inl ⟨by rfl, by intro W hW; obtain ⟨q0, q1, q2⟩ := EQ.out W hW; go_simp; try (first | (with_reducible rfl) | omega)⟩) hS ?_
    refine wpAnyH_one (i := 3) (by kernel_rfl) rfl (fun K hK => ?_)
    go_simp
    refine (is_any _ fn fc _ false (by rw [eq_comm, decide_eq_false_iff_not]; omega) _).mono ?_
    rintro e w3 ⟨rfl, hb3⟩
    have hS : Below w2.heap.size w2 w3 := hS.trans hb3
    go_simp
    refine hK _ _ ⟨hS, ?_⟩; clear hK K
    refine wpAnyH_one (i := 4) (by kernel_rfl) rfl (fun K hK => ?_)
    go_simp
    refine hK _ _ ⟨hS, ?_⟩; clear hK K
    refine wpAnyH_one (i := 5) (by kernel_rfl) rfl (fun K hK => ?_)
    go_simp
    refine hK _ _ ⟨hS, ?_⟩; clear hK K
    refine wpAnyH_take (i := 6) (v := undef) rfl (by kernel_rfl) (by kernel_rfl) (by kernel_rfl) (fun _ _ _ h => h) (Or.inr ⟨by rfl, rfl⟩) hS ?_
    refine wpAnyH_take (i := 7) (v := undef) rfl (by kernel_rfl) (by kernel_rfl) (by kernel_rfl) (fun _ _ _ h => h) (Or.inr ⟨by rfl, rfl⟩) hS ?_
    try go_simp
    refine wpAnyH_take (i := 8) (v := undef) rfl (by kernel_rfl) (by kernel_rfl) (by kernel_rfl) (fun _ _ _ h => h) (Or.inr ⟨by rfl, rfl⟩) hS ?_
    refine wpAnyH_take (i := 9) (v := .bool true) rfl (by kernel_rfl) (by kernel_rfl) (by kernel_rfl) (fun _ _ _ h => h) (Or.inl ⟨by rfl, by intro W hW; go_simp; try (first | (with_reducible rfl) | omega)⟩) hS ?_
    refine wpAnyH_take (i := 10) (v := .bool true) rfl (by kernel_rfl) (by kernel_rfl) (by kernel_rfl) (fun _ _ _ h => h) (Or.inl ⟨by rfl, by intro W hW; go_simp; try (first | (with_reducible rfl) | omega)⟩) hS ?_
    try go_simp
    refine wpAnyH_take (i := 11) (v := undef) rfl (by kernel_rfl) (by kernel_rfl) (by kernel_rfl) (fun _ _ _ h => h) (Or.inr ⟨by rfl, rfl⟩) hS ?_
    refine wpAnyH_take (i := 12) (v := undef) rfl (by kernel_rfl) (by kernel_rfl) (by kernel_rfl) (fun _ _ _ h => h) (Or.inr ⟨by rfl, rfl⟩) hS ?_
    refine wpAnyH_take (i := 13) (v := undef) rfl (by kernel_rfl) (by kernel_rfl) (by kernel_rfl) (fun _ _ _ h => h) (Or.inr ⟨by rfl, rfl⟩) hS ?_
    try go_simp
    refine wpAnyH_take (i := 14) (v := undef) rfl (by kernel_rfl) (by kernel_rfl) (by kernel_rfl) (fun _ _ _ h => h) (Or.inr ⟨by rfl, rfl⟩) hS ?_
    refine wpAnyH_take (i := 15) (v := undef) rfl (by kernel_rfl) (by kernel_rfl) (by kernel_rfl) (fun _ _ _ h => h) (Or.inr ⟨by rfl, rfl⟩) hS ?_
    refine wpAnyH_take (i := 16) (v := undef) rfl (by kernel_rfl) (by kernel_rfl) (by kernel_rfl) (fun _ _ _ h => h) (Or.inr ⟨by rfl, rfl⟩) hS ?_
    try go_simp
    refine wpAnyH_take (i := 17) (v := undef) rfl (by kernel_rfl) (by kernel_rfl) (by kernel_rfl) (fun _ _ _ h => h) (Or.inr ⟨by rfl, rfl⟩) hS ?_
    refine wpAnyH_take (i := 18) (v := undef) rfl (by kernel_rfl) (by kernel_rfl) (by kernel_rfl) (fun _ _ _ h => h) (Or.inr ⟨by rfl, rfl⟩) hS ?_
    refine wpAnyH_take (i := 19) (v := undef) rfl (by kernel_rfl) (by kernel_rfl) (by kernel_rfl) (fun _ _ _ h => h) (Or.inr ⟨by rfl, rfl⟩) hS ?_
    try go_simp
    refine wpAnyH_take (i := 20) (v := undef) rfl (by kernel_rfl) (by kernel_rfl) (by kernel_rfl) (fun _ _ _ h => h) (Or.inr ⟨by rfl, rfl⟩) hS ?_
    refine wpAnyH_take (i := 21) (v := undef) rfl (by kernel_rfl) (by kernel_rfl) (by kernel_rfl) (fun _ _ _ h => h) (Or.inr ⟨by rfl, rfl⟩) hS ?_
    refine wpAnyH_take (i := 22) (v := .bool true) rfl (by kernel_rfl) (by kernel_rfl) (by kernel_rfl) (fun _ _ _ h => h) (Or.inl ⟨by rfl, by intro W hW; go_simp; try (first | (with_reducible rfl) | omega)⟩) hS ?_
    try go_simp
    refine wpAnyH_done (by kernel_rfl) ?_ _
    have HB3 : Hid (Below w2.heap.size w2 w3) := Lib.hid hS
    clear hS hb3
    go_simp
    go_wp2_with fail
    go_ret2
    exact ⟨by rw [HT.out]; rfl, HB.out.trans (HB3.out.mono HB.out.size)⟩

end Go.Proofs.Ytjblfdnhmmlbfaa
