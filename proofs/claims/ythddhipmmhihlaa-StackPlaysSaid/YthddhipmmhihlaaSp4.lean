/-
  The flat stack: some values in a row of their own; those on top.
-/
import Derived.Test.YthddhipmmhihlaaSp3
namespace Go.Proofs.Ythddhipmmhihlaa
open Go.RowKit
set_option linter.unusedSimpArgs false
set_option linter.unusedVariables false
attribute [local go_sem] run_store_cplx
theorem run_copy3 (w : World) (ty : TypeId) (g n c : Nat) (a : Addr) (sc : Nat) (cs : List Value) (hl : cs.length = n * 3) (hsrc : ∀ j v, cs[j]? = some v → w.cell? (a.add j) = some v)
    (hc : ∀ j, j < cs.length → (w.cell? ⟨g, 0 + j, none⟩).isSome = true) (hf : ∀ j, j < cs.length → w.frozen? ⟨g, 0 + j, none⟩ = false) (h1 : ∀ v ∈ cs, v.oneCell' = true) :
    (Builtin.copy_ #[24, 24] ty #[.slice (some ⟨g, 0, none⟩) n c, .slice (some a) n sc]).run Try.prog w = .ok (goInt n) (w.setCells g 0 cs) := by
  obtain ⟨i0, hi, hz0, hz1, hz2⟩ := info_parts info_val
  have hl' := run_loadCells_list (P := Try.prog) w a cs hsrc
  have hst := run_storeCells_cells (P := Try.prog) g 0 cs 0 w (by simpa using hc) (by simpa using hf) h1
  rw [hl] at hl'
  simp [Builtin.copy_, run_underlying Try.underlying24, Builtin.lenOf, Builtin.firstCells, sizeOf, typeInfo, hi, hz1, hl', hst]
def extM (vs : List DV) (from_ to_ : Int) : List DV := (vs.take (min to_ vs.length).toNat).drop (max from_ 0).toNat
def IsRowS (vs : List DV) (w : World) (e : Ending) (w' : World) : Prop := ∃ A' c', e = .returned (.slice A' vs.length c') ∧ SlV w' w'.heap.size A' vs.length c' vs ∧ Below w.heap.size w w'
theorem oneV (vs : List DV) : ∀ u ∈ vs.flatMap cellsV, u.oneCell' = true := fun u hu => by
  obtain ⟨v, _, hv⟩ := List.mem_flatMap.1 hu
  simp [cellsV] at hv
  rcases hv with rfl | rfl | rfl <;> rfl
set_option maxRecDepth 100000 in
set_option maxHeartbeats 4000000 in
theorem rowS_any (g c : Nat) (A : Option Addr) (vs : List DV) (from_ to_ : Int) (w : World) (h : SkW w g A c vs) (hn : vs.length ≤ 1000) :
    Calls Try.prog 30 #[.pointer (some ⟨g, 0, none⟩), .int .i64 from_, .int .i64 to_] w (IsRowS (extM vs from_ to_) w) := by
  obtain ⟨i0, hi, hz0, hz1, hz2⟩ := info_parts info_val
  have cl := Lib.hid (len_box g A vs.length c w h.c0 hn)
  obtain ⟨f, hf⟩ : ∃ f : Nat, max from_ 0 = (f : Int) := ⟨(max from_ 0).toNat, by omega⟩
  obtain ⟨t, ht⟩ : ∃ t : Int, min to_ (vs.length : Int) = t := ⟨_, rfl⟩
  have hE : extM vs from_ to_ = (vs.take t.toNat).drop f := by unfold extM; rw [hf, ht, Int.toNat_natCast]
  rw [hE]
  have g0 : w.cell? ⟨g, 0, none⟩ = some (.slice A vs.length c) := h.c0
  have HS := Lib.hid h
  have HF := Lib.hid hf
  have HT := Lib.hid ht
  have htn : t ≤ vs.length := by omega
  obtain ⟨n, hnn⟩ : ∃ n, vs.length = n := ⟨_, rfl⟩
  rw [hnn] at cl g0 htn HT hn
  have HN := Lib.hid hnn
  clear h hE hf ht hnn
  go_enter Try.func30, Try.ntmps30
  go_upto_region 1 with fail
  go_cut [1, 2] (fun a b wx => a = .int .i64 (f : Int) ∧ b = .int .i64 t ∧ wx = w)
  case first =>
    have hf := HF.out
    have ht := HT.out
    rcases (show from_ < 0 ∨ 0 ≤ from_ by omega) with h1 | h1
    · have hm : max from_ 0 = 0 := by omega
      obtain rfl : f = 0 := by omega
      rcases (show to_ < (n : Int) ∨ to_ = (n : Int) ∨ ((n : Int) < to_) by omega) with h2 | rfl | h2
      · have hm2 : min to_ (n : Int) = to_ := by omega
        obtain rfl : t = to_ := by omega
        clear hf ht HF HT
        go_wp2_with fail
        refine cl.out.mono ?_
        rintro e w' ⟨rfl, rfl⟩
        go_wp2_with fail
        go_meet
        exact ⟨by first | rfl | simp, by first | rfl | simp, rfl⟩
      · have hm2 : min (n : Int) (n : Int) = n := by omega
        obtain rfl : t = n := by omega
        clear hf ht HF HT
        go_wp2_with fail
        refine cl.out.mono ?_
        rintro e w' ⟨rfl, rfl⟩
        go_wp2_with fail
        go_meet
        exact ⟨by first | rfl | simp, by first | rfl | simp, rfl⟩
      · have hm2 : min to_ (n : Int) = n := by omega
        obtain rfl : t = n := by omega
        clear hf ht HF HT
        go_wp2_with fail
        refine cl.out.mono ?_
        rintro e w' ⟨rfl, rfl⟩
        go_wp2_with fail
        go_meet
        exact ⟨by first | rfl | simp, by first | rfl | simp, rfl⟩
    · obtain rfl : from_ = (f : Int) := by omega
      have hm : max (f : Int) 0 = f := by omega
      have h1' : ¬ (f : Int) < 0 := by omega
      rcases (show to_ < (n : Int) ∨ to_ = (n : Int) ∨ ((n : Int) < to_) by omega) with h2 | rfl | h2
      · have hm2 : min to_ (n : Int) = to_ := by omega
        obtain rfl : t = to_ := by omega
        clear hf ht HF HT
        go_wp2_with fail
        refine cl.out.mono ?_
        rintro e w' ⟨rfl, rfl⟩
        go_wp2_with fail
        go_meet
        exact ⟨by first | rfl | simp, by first | rfl | simp, rfl⟩
      · have hm2 : min (n : Int) (n : Int) = n := by omega
        obtain rfl : t = n := by omega
        clear hf ht HF HT
        go_wp2_with fail
        refine cl.out.mono ?_
        rintro e w' ⟨rfl, rfl⟩
        go_wp2_with fail
        go_meet
        exact ⟨by first | rfl | simp, by first | rfl | simp, rfl⟩
      · have hm2 : min to_ (n : Int) = n := by omega
        obtain rfl : t = n := by omega
        clear hf ht HF HT
        go_wp2_with fail
        refine cl.out.mono ?_
        rintro e w' ⟨rfl, rfl⟩
        go_wp2_with fail
        go_meet
        exact ⟨by first | rfl | simp, by first | rfl | simp, rfl⟩
  case rest =>
    obtain ⟨rfl, rfl, rfl⟩ := hcut
    by_cases hft : t ≤ (f : Int)
    · have HR : Hid ((vs.take t.toNat).drop f = []) := Lib.hid (List.drop_eq_nil_of_le (by simp; omega))
      clear HF HT
      go_wp2_with fail
      go_ret
      exact ⟨none, 0, by rw [HR.out]; rfl, by rw [HR.out]; exact SlR.nil_ _ _, Below.refl _ _⟩
    · obtain ⟨t, rfl⟩ : ∃ k : Nat, t = (k : Int) := ⟨t.toNat, by omega⟩
      have hlt : f < t := by omega
      have htl : t ≤ n := by omega
      rcases HS.out.row.form with ⟨_, h0, _⟩ | ⟨r, rfl, hgr, hr⟩
      · have := HN.out; omega
      · obtain ⟨d, hd⟩ : ∃ d, t - f = d := ⟨_, rfl⟩
        have hdi : (t : Int) - (f : Int) = (d : Int) := by omega
        have hd0 : 0 < d := by omega
        have hcc := HS.out.row.2.1
        have hcm := HS.out.row.2.2.1
        rw [HN.out] at hcc
        unfold maxLen at hcm
        obtain ⟨cs, hcs⟩ : ∃ cs, ((wc.cell? ⟨g, 0, none⟩ = wc.cell? ⟨g, 0, none⟩) → True) ∧ cs = ((vs.take t).drop f).flatMap cellsV := ⟨_, fun _ => trivial, rfl⟩
        have hcs := hcs.2
        have hll : ((vs.take t).drop f).length = d := by simp [HN.out]; omega
        have hlc : cs.length = d * 3 := by rw [hcs, flatMap_len (sz := 3) cellsV (fun _ => rfl), hll]
        obtain ⟨MC, hMC, hMs⟩ : ∃ MC : Array Value, (∀ W, (Instr.makeSlice 24 (.int .i64 (d : Int)) (.int .i64 (d : Int))).run Try.prog W = .ok (.slice (some ⟨W.heap.size, 0, none⟩) d d) (W.alloc (.cells MC 45))) ∧ MC.size = d * 3 := by
          refine ⟨madeCells (Value.agg #[.int .i64 0, .int .i64 0, .complex .f64 0 0]).cells (d * i0.size), fun W => ?_, by rw [size_madeCells, hz1]⟩
          have := run_make (P := Try.prog) W 24 45 i0 _ Try.underlying24 hi hz0 .i64 .i64 (d : Int) (d : Int) (by omega) (by omega) (by rw [hz2]; omega) (by omega)
          simpa using this
        have hnew := heap_alloc_new wc (.cells MC 45)
        obtain ⟨cur', hh', hs', hj'⟩ := heap_setCells cs 0 (wc.alloc (.cells MC 45)) MC hnew
        have hcp : ∀ ty, (Builtin.copy_ #[24, 24] ty #[.slice (some ⟨wc.heap.size, 0, none⟩) d d, .slice (some ⟨r, f * 3, none⟩) d d]).run Try.prog (wc.alloc (.cells MC 45)) = .ok (goInt d) ((wc.alloc (.cells MC 45)).setCells wc.heap.size 0 cs) := fun ty =>
          run_copy3 _ ty wc.heap.size d d ⟨r, f * 3, none⟩ d cs hlc (fun j v hj => by
            rw [addr_add, World.cell?_alloc_lt _ _ _ hr]
            refine HS.out.row.cells.2.2.1 (f * 3 + j) v ?_
            rw [hcs, flatMap_drop (sz := 3) cellsV (fun _ => rfl), flatMap_take (sz := 3) cellsV (fun _ => rfl), List.getElem?_drop, List.getElem?_take] at hj
            split at hj
            · exact hj
            · cases hj) (fun j hj => by
              have : (wc.alloc (.cells MC 45)).cell? ⟨wc.heap.size, 0 + j, none⟩ = MC[0 + j]? := cell_of_row _ wc.heap.size (0 + j) MC _ (0, 0) hnew
              rw [this, Array.getElem?_eq_getElem (by omega)]; rfl) (fun j hj => by unfold World.frozen?; rw [hnew]; simp) (by rw [hcs]; exact oneV _)
        have F : Hid (SlV ((wc.alloc (.cells MC 45)).setCells wc.heap.size 0 cs) ((wc.alloc (.cells MC 45)).setCells wc.heap.size 0 cs).heap.size (some ⟨wc.heap.size, 0, none⟩) d d ((vs.take t).drop f) ∧ Below wc.heap.size wc ((wc.alloc (.cells MC 45)).setCells wc.heap.size 0 cs)) := Lib.hid (by
          refine ⟨RowF.sl (base := 0) (sz := 3) (bytes := 32) (f := cellsV) (e := 45) (fun _ => rfl) (by decide) ⟨by rw [← hcs]; exact hlc, Nat.le_refl _, by unfold maxLen; omega, .inr ⟨_, cur', rfl, Nat.zero_le _, hh', ?_, fun h => absurd h (Nat.lt_irrefl _)⟩⟩ (by unfold reachBytes; omega), ?_⟩
          · rw [← hcs]
            apply List.ext_getElem?
            intro j
            have e2 : cur'.toList[j]? = cur'[j]? := by simp
            rw [List.getElem?_take]
            by_cases hj : j < d * 3
            · rw [if_pos hj, e2, hj' j, if_pos (by omega), Nat.sub_zero]
            · rw [if_neg hj, List.getElem?_eq_none (by omega)]
          · exact (((Kp.refl (fun k => wc.heap.size ≤ k) wc).alloc _).setCells (fun _ => Nat.le_refl _) _ _).below (Nat.le_refl _) (fun _ h => h))
        have HLL := Lib.hid hll
        rw [hcs] at F
        have hfc : f ≤ c := by omega
        have htc : (t : Int) ≤ c := by omega
        have hfi : (f : Int) < t := by omega
        have hti : (t : Int) ≤ n := by omega
        have g1 : (wc.alloc (.cells MC 45)).cell? ⟨g, 0, none⟩ = some (.slice (some ⟨r, 0, none⟩) n c) := (World.cell?_alloc_lt _ _ _ (World.block_lt_of_cell? _ _ g0)).trans g0
        have hft' : ¬ (t : Int) ≤ f := by omega
        clear HF HT HS hcs hll hlc hnew hh' hs' hj' hr hgr hMs hft
        go_wp2_with fail
        go_ret
        exact ⟨some ⟨wc.heap.size, 0, none⟩, d, by rw [HLL.out]; rfl, by rw [HLL.out]; exact F.out.1, F.out.2⟩
end Go.Proofs.Ythddhipmmhihlaa
