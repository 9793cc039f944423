import Derived.Test.YtobmjnmcjddhcaaGreatRg38
set_option linter.unusedSimpArgs false
set_option linter.unusedVariables false
namespace Go.Proofs.YtobmjnmcjddhcaaGreat
section
set_option maxRecDepth 100000
set_option maxHeartbeats 4000000
open Go.RowKit
theorem run_idle (p q : Addr) (w : World) :
  CallsD Tryz.prog 53 #[.pointer (some p), .pointer (some q)] .returning w fun e u' w' => e = .returned (.tuple #[]) ∧ u' = .returning ∧ w' = w := by
 refine callsD_of_wpS Tryz.func53 rfl fun c₀ cs hu => ?_
 apply wpS_seq
 apply wpS_region
 simp [wpOpsS, go_sem, recoverD, hu, Tryz.ntmps53, Exit.thenS]
 apply wpS_seq
 apply wpS_region
 simp [wpOpsS, go_sem, Exit.thenS]
 refine wpS_cond (t := false) (by simp [Act.eval, Array.replicate]) ?_
 simp only [Bool.false_eq_true, if_false]
 refine wpS_of_wp (wp_skip ?_)
 cases c₀
 simp_all [bodyPostS, results, Tryz.results53]
end
section
set_option maxRecDepth 100000
set_option maxHeartbeats 4000000
open Go.RowKit
def RunW (m g : Nat) (w : World) (c6 c8 c9 c10 : Value) (ek : Int) : World := (((((w.setCell ⟨g, 0, none⟩ c6).setCell ⟨g, 1, none⟩ (.int .i64 ek)).setCell ⟨g, 2, none⟩ c8).setCell ⟨g, 3, none⟩ c9).setCell ⟨g, 4, none⟩ c10)
theorem run_dry (b g m : Nat) (EA : Option Addr) (en ec : Nat) (RA : Option Addr) (rn rc : Nat) (CA : Option Addr) (cn cc : Nat) (st : Int) (w : World) (hb : ∀ o, (w.alloc o).cell? ⟨b, 0, none⟩ = some (ptrV m)) (h6 : ∀ o, (w.alloc o).cell? ⟨m, 6, none⟩ = some (.slice EA en ec)) (h7 : ∀ o, (w.alloc o).cell? ⟨m, 7, none⟩ = some (.int .i64 0)) (h8 : ∀ o, (w.alloc o).cell? ⟨m, 8, none⟩ = some (.slice RA rn rc)) (h9 : ∀ o, (w.alloc o).cell? ⟨m, 9, none⟩ = some (.slice CA cn cc)) (h10 : ∀ o, (w.alloc o).cell? ⟨m, 10, none⟩ = some (.int .i64 st))
  (g0 : ∀ o, (w.alloc o).cell? ⟨g, 0, none⟩ = some (.slice none 0 0)) (g1 : ∀ o, (w.alloc o).cell? ⟨g, 1, none⟩ = some (.int .i64 0)) (g2 : ∀ o, (w.alloc o).cell? ⟨g, 2, none⟩ = some (.slice none 0 0)) (g3 : ∀ o, (w.alloc o).cell? ⟨g, 3, none⟩ = some (.slice none 0 0)) (g4 : ∀ o, (w.alloc o).cell? ⟨g, 4, none⟩ = some (.int .i64 0)) (gf : ∀ o i, (w.alloc o).frozen? ⟨g, i, none⟩ = false) (f7 : ∀ o, (w.alloc o).frozen? ⟨m, 7, none⟩ = false) (hbm : ¬ b = m) (hgm : ¬ g = m) :
  CallsD Tryz.prog 53 #[.pointer (some ⟨b, 0, none⟩), .pointer (some ⟨g, 0, none⟩)] (.panicking dryE) w fun e u' w' => e = .returned (.tuple #[]) ∧ u' = .panicking [{ v := .iface 122 (.agg #[]), recovered := true }] ∧ w' = RunW m g ((w.alloc (.cells #[] 122)).setCell ⟨m, 7, none⟩ (.int .i64 3)) (.slice EA en ec) (.slice RA rn rc) (.slice CA cn cc) (.int .i64 st) 3 := by
 have hta : ∀ w : World, (Instr.typeAssert (.iface 122 (.agg #[])) 20 122 true).run Tryz.prog w = .ok (.tuple #[.agg #[], .bool true]) w := fun _ => by kernel_rfl
 refine callsD_of_wpS Tryz.func53 rfl fun c₀ cs hu => ?_
 apply wpS_seq
 apply wpS_region
 simp [wpOpsS, go_sem, recoverD, hu, Tryz.ntmps53, Exit.thenS]
 apply wpS_seq
 apply wpS_region
 simp [wpOpsS, go_sem, Exit.thenS]
 refine wpS_cond (t := true) (by simp [Act.eval, Array.replicate]) ?_
 simp only [if_true]
 apply wpS_seq
 apply wpS_seq
 apply wpS_region
 simp [wpOpsS, go_sem, Exit.thenS, hta]
 apply wpS_seq
 apply wpS_region
 simp [wpOpsS, go_sem, Exit.thenS]
 refine wpS_cond (t := false) (by simp [Act.eval, Array.replicate]) ?_
 simp only [Bool.false_eq_true, if_false]
 refine wpS_of_wp (wp_skip ?_)
 simp only [Exit.thenS]
 apply wpS_seq
 apply wpS_region
 simp [wpOpsS, go_sem, Exit.thenS, hb, h7, f7]
 obtain ⟨wz, hwz⟩ : ∃ z, (w.alloc (.cells #[] 122)).setCell ⟨m, 7, none⟩ (.int .i64 3) = z := ⟨_, rfl⟩
 have q : ∀ p : Addr, p ≠ ⟨m, 7, none⟩ → wz.cell? p = (w.alloc (.cells #[] 122)).cell? p := fun p hp => by rw [← hwz]; exact World.cell?_setCell_other _ _ _ _ (Ne.symm hp)
 have qb := (q ⟨b, 0, none⟩ (by simp [hbm])).trans (hb _)
 have q6 := (q ⟨m, 6, none⟩ (by simp)).trans (h6 _)
 have q7 : wz.cell? ⟨m, 7, none⟩ = some (.int .i64 3) := by rw [← hwz]; simp [go_sem, h7]
 have q8 := (q ⟨m, 8, none⟩ (by simp)).trans (h8 _)
 have q9 := (q ⟨m, 9, none⟩ (by simp)).trans (h9 _)
 have q10 := (q ⟨m, 10, none⟩ (by simp)).trans (h10 _)
 have k0 := (q ⟨g, 0, none⟩ (by simp [hgm])).trans (g0 _)
 have k1 := (q ⟨g, 1, none⟩ (by simp [hgm])).trans (g1 _)
 have k2 := (q ⟨g, 2, none⟩ (by simp [hgm])).trans (g2 _)
 have k3 := (q ⟨g, 3, none⟩ (by simp [hgm])).trans (g3 _)
 have k4 := (q ⟨g, 4, none⟩ (by simp [hgm])).trans (g4 _)
 have kf : ∀ i, wz.frozen? ⟨g, i, none⟩ = false := fun i => by rw [← hwz]; exact (World.frozen?_setCell _ _ _ _).trans (gf _ i)
 rw [hwz]
 clear hb h6 h7 h8 h9 h10 g0 g1 g2 g3 g4 gf f7 q hwz hta hu
 apply wpS_region
 simp [wpOpsS, go_sem, qb, q6, q7, q8, q9, q10, k0, k1, k2, k3, k4, kf, bodyPostS, results, Tryz.results53, RunW]
end
section
open Go.RowKit
variable {K : RK} {τ : Nat → Tag} {w w1 : World}
theorem vm_start (c0 : w.cell? ⟨K.m, 0, none⟩ = some (.slice K.FA K.fn K.fc)) (c1 : w.cell? ⟨K.m, 1, none⟩ = some (.slice K.AA K.an K.ac)) (c2 : w.cell? ⟨K.m, 2, none⟩ = some (.slice K.DA K.dn K.dc)) (c3 : w.cell? ⟨K.m, 3, none⟩ = some (.int .i64 (K.fuel : Int))) (c4 : w.cell? ⟨K.m, 4, none⟩ = some (.int .i64 0)) (c5 : w.cell? ⟨K.m, 5, none⟩ = some (.slice none 0 0)) (c6 : w.cell? ⟨K.m, 6, none⟩ = some (.slice none 0 0)) (c7 : w.cell? ⟨K.m, 7, none⟩ = some (.int .i64 0)) (c8 : w.cell? ⟨K.m, 8, none⟩ = some (.slice none 0 0)) (c9 : w.cell? ⟨K.m, 9, none⟩ = some (.slice none 0 0)) (c10 : w.cell? ⟨K.m, 10, none⟩ = some (.int .i64 0)) (hf : ∀ i, w.frozen? ⟨K.m, i, none⟩ = false) (ht : τ K.m = (0, 1)) : VM K τ w [] ⟨[], 0, 0, [], none⟩ :=
 ⟨none, 0, 0, none, 0, 0, [], c0, c1, c2, c3, c4, c5, c6, c7, c8, c9, c10, hf, World.ownsRow_nil _ _ _ _, RowF.ofOwn (World.ownsRow_nil _ _ _ _), ht, (fun j e => by cases e), (fun j e => by cases e), (fun e he => by cases he), rfl⟩
def runW0 (FA : Option Addr) (fn fc : Nat) (AA : Option Addr) (an ac : Nat) (DA : Option Addr) (dn dc f : Nat) (w : World) : World :=
 ((((w.alloc (.cells #[.slice FA fn fc] 24)).alloc (.cells #[.slice AA an ac, .slice DA dn dc] 66)).alloc (.cells #[.slice none 0 0, .int .i64 0, .slice none 0 0, .slice none 0 0, .int .i64 0] 71)).alloc (.cells #[.slice FA fn fc, .slice AA an ac, .slice DA dn dc, .int .i64 (f : Int), .int .i64 0, .slice none 0 0, .slice none 0 0, .int .i64 0, .slice none 0 0, .slice none 0 0, .int .i64 0] 120)).alloc (.cells #[ptrV (w.heap.size + 1 + 1 + 1)] 117)
theorem runW0_below (FA : Option Addr) (fn fc : Nat) (AA : Option Addr) (an ac : Nat) (DA : Option Addr) (dn dc f : Nat) (w : World) : Below w.heap.size w (runW0 FA fn fc AA an ac DA dn dc f w) ∧ (runW0 FA fn fc AA an ac DA dn dc f w).heap.size = w.heap.size + 5 := by
 unfold runW0
 refine ⟨?_, by simp⟩
 repeat (refine Below.alloc ?_ (by simp; try omega) _)
 exact Below.refl _ _
theorem runW0_cells (FA : Option Addr) (fn fc : Nat) (AA : Option Addr) (an ac : Nat) (DA : Option Addr) (dn dc f : Nat) (w W : World) (hW : runW0 FA fn fc AA an ac DA dn dc f w = W) : W.cell? ⟨w.heap.size + 3, 0, none⟩ = some (.slice FA fn fc) ∧ W.cell? ⟨w.heap.size + 3, 1, none⟩ = some (.slice AA an ac) ∧ W.cell? ⟨w.heap.size + 3, 2, none⟩ = some (.slice DA dn dc) ∧ W.cell? ⟨w.heap.size + 3, 3, none⟩ = some (.int .i64 (f : Int)) ∧ W.cell? ⟨w.heap.size + 3, 4, none⟩ = some (.int .i64 0) ∧ W.cell? ⟨w.heap.size + 3, 5, none⟩ = some (.slice none 0 0) ∧ W.cell? ⟨w.heap.size + 3, 6, none⟩ = some (.slice none 0 0) ∧ W.cell? ⟨w.heap.size + 3, 7, none⟩ = some (.int .i64 0) ∧ W.cell? ⟨w.heap.size + 3, 8, none⟩ = some (.slice none 0 0) ∧ W.cell? ⟨w.heap.size + 3, 9, none⟩ = some (.slice none 0 0) ∧ W.cell? ⟨w.heap.size + 3, 10, none⟩ = some (.int .i64 0) ∧ W.cell? ⟨w.heap.size + 2, 0, none⟩ = some (.slice none 0 0) ∧ W.cell? ⟨w.heap.size + 2, 1, none⟩ = some (.int .i64 0) ∧ W.cell? ⟨w.heap.size + 2, 2, none⟩ = some (.slice none 0 0) ∧ W.cell? ⟨w.heap.size + 2, 3, none⟩ = some (.slice none 0 0) ∧ W.cell? ⟨w.heap.size + 2, 4, none⟩ = some (.int .i64 0) ∧ W.cell? ⟨w.heap.size + 4, 0, none⟩ = some (ptrV (w.heap.size + 3)) := by
 subst hW
 unfold runW0
 simp [go_sem]
theorem runW0_frozen (FA : Option Addr) (fn fc : Nat) (AA : Option Addr) (an ac : Nat) (DA : Option Addr) (dn dc f : Nat) (w W : World) (hW : runW0 FA fn fc AA an ac DA dn dc f w = W) (i : Nat) : W.frozen? ⟨w.heap.size + 3, i, none⟩ = false ∧ W.frozen? ⟨w.heap.size + 2, i, none⟩ = false := by
 subst hW
 unfold runW0
 simp [go_sem]
theorem runW_kp (m g : Nat) (w : World) (c6 c8 c9 c10 : Value) (ek : Int) : Kp (fun j => j = g) w (RunW m g w c6 c8 c9 c10 ek) := by
 unfold RunW
 have h : ∀ (W : World) (i : Nat) (u : Value), Kp (fun j => j = g) w W → Kp (fun j => j = g) w (W.setCell ⟨g, i, none⟩ u) := fun W i u hW => hW.setCell (p := ⟨g, i, none⟩) (fun _ => rfl) u
 exact h _ 4 _ (h _ 3 _ (h _ 2 _ (h _ 1 _ (h _ 0 _ (Kp.refl _ _)))))
theorem runW_cells (m g : Nat) (w : World) (c6 c8 c9 c10 : Value) (ek : Int) (h0 : (w.cell? ⟨g, 0, none⟩).isSome) (h1 : (w.cell? ⟨g, 1, none⟩).isSome) (h2 : (w.cell? ⟨g, 2, none⟩).isSome) (h3 : (w.cell? ⟨g, 3, none⟩).isSome) (h4 : (w.cell? ⟨g, 4, none⟩).isSome) :
  (RunW m g w c6 c8 c9 c10 ek).cell? ⟨g, 0, none⟩ = some c6 ∧ (RunW m g w c6 c8 c9 c10 ek).cell? ⟨g, 1, none⟩ = some (.int .i64 ek) ∧ (RunW m g w c6 c8 c9 c10 ek).cell? ⟨g, 2, none⟩ = some c8 ∧ (RunW m g w c6 c8 c9 c10 ek).cell? ⟨g, 3, none⟩ = some c9 ∧ (RunW m g w c6 c8 c9 c10 ek).cell? ⟨g, 4, none⟩ = some c10 := by
 obtain ⟨v0, h0⟩ := Option.isSome_iff_exists.1 h0
 obtain ⟨v1, h1⟩ := Option.isSome_iff_exists.1 h1
 obtain ⟨v2, h2⟩ := Option.isSome_iff_exists.1 h2
 obtain ⟨v3, h3⟩ := Option.isSome_iff_exists.1 h3
 obtain ⟨v4, h4⟩ := Option.isSome_iff_exists.1 h4
 unfold RunW
 simp [go_sem, h0, h1, h2, h3, h4]
end
section
set_option maxRecDepth 100000
set_option maxHeartbeats 8000000
open Go.RowKit
def FinV (u : Ms) (ek : Int) (rl : List Int) (ch : List Bl) : Prop := (u.fin = none ∧ ek = 3 ∧ rl = [] ∧ ch = []) ∨ (∃ rs, u.fin = some (.done rs) ∧ ek = 1 ∧ rl = rs ∧ ch = []) ∨ ∃ c, u.fin = some (.crash c) ∧ ek = 2 ∧ rl = [] ∧ ch = c
def RunP (K : RK) (e : Ending) (w' : World) : Prop := ∃ EA en ec ek RA rn rc CA cn cc u τ' evs rl ch, e = .returned (.agg #[.slice EA en ec, .int .i64 ek, .slice RA rn rc, .slice CA cn cc, .int .i64 ((u : Ms).steps : Int)]) ∧ EndsAt K.fs K.ds K.ags K.fuel u ∧ Env K τ' w' ∧ RowF w' (K.m + 1) 116 4 EA en ec (rowE evs) ∧ (∀ q ∈ evs, Im τ' w' q.A q.l 2 (rowEn q.tr)) ∧ evs.map EvV.ab = u.evs ∧ SlI w' w'.heap.size RA rn rc rl ∧ ChZ τ' w' CA cn cc ch ∧ FinV u ek rl ch ∧ (RA = none ∨ ∃ j, RA = some ⟨j, 0, none⟩ ∧ K.m < j)
def tag0 (b : Nat) (j : Nat) : Tag := if j = b + 3 then (0, 1) else if j = b + 2 then (0, 5) else (0, 0)
theorem tag0_3 (b : Nat) : tag0 b (b + 3) = (0, 1) := if_pos rfl
theorem tag0_2 (b : Nat) : tag0 b (b + 2) = (0, 5) := by unfold tag0; rw [if_neg (by omega), if_pos rfl]
theorem tag0_4 (b : Nat) : tag0 b (b + 4) = (0, 0) := by unfold tag0; rw [if_neg (by omega), if_neg (by omega)]
theorem tag0_z (b j : Nat) (h : j < b ∨ b + 4 ≤ j) : tag0 b j = (0, 0) := by unfold tag0; rw [if_neg (by omega), if_neg (by omega)]
theorem tt_5 : ¬ TT 1 (0, 5) := fun h => by
 rcases h with ⟨_, h⟩ | h | ⟨_, h⟩
 ·have := h.2; simp at this
 ·simp at h
 ·simp at h
theorem tt_0 : ¬ TT 1 (0, 0) := TT.no (Nat.le_refl _)
theorem cell_alloc {w : World} {p : Addr} {v : Value} (h : w.cell? p = some v) (o : Obj) : (w.alloc o).cell? p = some v := by
 have hb : Below w.heap.size w (w.alloc o) := (Below.refl _ _).alloc (Nat.le_refl _) _
 exact (hb.cell (World.block_lt_of_cell? _ _ h)).trans h
theorem frozen_alloc {w : World} {b i : Nat} (hb : b < w.heap.size) (h : w.frozen? ⟨b, i, none⟩ = false) (o : Obj) : (w.alloc o).frozen? ⟨b, i, none⟩ = false := by
 have hk : Kp (fun _ => False) w (w.alloc o) := (Kp.refl _ _).alloc _
 exact (hk.frozen (p := ⟨b, i, none⟩) hb id).trans h
theorem SlI.keepAt {w w' : World} {A : Option Addr} {n c m : Nat} {l : List Int} {S : Nat → Prop} (h : SlI w w.heap.size A n c l) (hk : Kp S w w') (h0 : A = none ∨ ∃ j, A = some ⟨j, 0, none⟩ ∧ m < j) (hS : ∀ j, m < j → ¬ S j) : SlI w' w'.heap.size A n c l := by
 obtain ⟨h1, h2, h3, h4, h5⟩ := h
 refine ⟨h1, h2, h3, h4, fun hn => ?_⟩
 obtain ⟨b, off, rfl, hb, hx⟩ := h5 hn
 rcases h0 with h0 | ⟨j, h0, hj⟩
 ·cases h0
 ·injection h0 with h0
  injection h0 with h0 h6
  subst h0
  refine ⟨b, off, rfl, Nat.lt_of_lt_of_le hb hk.size, fun i x hi => ?_⟩
  obtain ⟨cs, hl, hc, hr⟩ := hx i x hi
  exact ⟨cs, hl, fun j u hj => (hk.cell (p := ⟨b, off + (i * 1 + j), none⟩) hb (hS b (by assumption))).trans (hc j u hj), hr⟩
theorem run_any (K : RK) (fu : Int) (w : World) (hKw : K.wI = w) (hKm : K.m = w.heap.size + 3) (hfu : fu ≤ 1500) (hKf : (K.fuel : Int) = max fu 0) (hG : KG K) :
  Calls Tryz.prog 29 #[.agg #[.slice K.FA K.fn K.fc], .agg #[.slice K.AA K.an K.ac, .slice K.DA K.dn K.dc], .int .i64 fu] w (RunP K) := by
 have hmf : ∀ (fn : Fn) (first cap : Array Value) (w : World), (Instr.makeFunc fn first cap).run Tryz.prog w = .ok (.func fn first cap) w := fun _ _ _ _ => rfl
 obtain ⟨W0, hW0⟩ : ∃ z, runW0 K.FA K.fn K.fc K.AA K.an K.ac K.DA K.dn K.dc K.fuel w = z := ⟨_, rfl⟩
 have hcs := runW0_cells _ _ _ _ _ _ _ _ _ _ w W0 hW0
 have hfz := runW0_frozen _ _ _ _ _ _ _ _ _ _ w W0 hW0
 have hbw := runW0_below K.FA K.fn K.fc K.AA K.an K.ac K.DA K.dn K.dc K.fuel w
 rw [hW0] at hbw
 have hE : Env K (tag0 w.heap.size) W0 := ⟨by rw [hKw]; exact hbw.1, fun j hj => tag0_z _ _ (.inl (by rw [hKw] at hj; exact hj)), fun j hj => tag0_z _ _ (.inr (by omega))⟩
 obtain ⟨a0, a1, a2, a3, a4, a5, a6, a7, a8, a9, a10, b0, b1, b2, b3, b4, d0⟩ := hcs
 have hV : VM K (tag0 w.heap.size) W0 [] ⟨[], 0, 0, [], none⟩ := by
  apply vm_start <;> first | (rw [hKm]; assumption) | (intro i; rw [hKm]; exact (hfz i).1) | (rw [hKm]; exact tag0_3 _)
 have cA := Hd (allrun_any hG hE hV)
 have HB : Hid (W0.cell? ⟨w.heap.size + 2, 0, none⟩ = some (.slice none 0 0) ∧ W0.cell? ⟨w.heap.size + 2, 1, none⟩ = some (.int .i64 0) ∧ W0.cell? ⟨w.heap.size + 2, 2, none⟩ = some (.slice none 0 0) ∧ W0.cell? ⟨w.heap.size + 2, 3, none⟩ = some (.slice none 0 0) ∧ W0.cell? ⟨w.heap.size + 2, 4, none⟩ = some (.int .i64 0) ∧ W0.cell? ⟨w.heap.size + 4, 0, none⟩ = some (ptrV (w.heap.size + 3)) ∧ ∀ i, W0.frozen? ⟨w.heap.size + 2, i, none⟩ = false) := Hd ⟨b0, b1, b2, b3, b4, d0, fun i => (hfz i).2⟩
 have HS0 : Hid (W0.heap.size = w.heap.size + 5) := Hd hbw.2
 obtain ⟨fv, hfv⟩ : ∃ f, K.fuel = f := ⟨_, rfl⟩
 unfold runW0 at hW0
 rw [hfv] at hW0 hKf
 have HW0 := Hd hW0
 have HKM := Hd hKm
 have HKW := Hd hKw
 have hm3 : K.m = w.heap.size + 1 + 1 + 1 := hKm
 rw [hm3] at cA
 clear hG hV hE hbw hfz a0 a1 a2 a3 a4 a5 a6 a7 a8 a9 a10 b0 b1 b2 b3 b4 d0 hW0 hKw hKm hm3
 have hcase : fu = (fv : Int) ∨ (fu < 0 ∧ fv = 0) := by omega
 clear hKf
 rcases hcase with rfl | ⟨hneg, rfl⟩
 all_goals
  try rw [show ((0 : Nat) : Int) = 0 from rfl] at HW0
  go_enter_defers Tryz.func29, Tryz.ntmps29
  go_wp2_with fail
  rw [HW0.out]
  refine cA.out.mono ?_
  rintro e w2 (⟨rfl, τ2, t, hk, henv, hvm, hend, hfin⟩ | ⟨⟨v, rfl⟩, τ2, u, hk, henv, hend, hfu⟩)
  ·obtain ⟨PA, pn, pc, EA, en, ec, evs, hv⟩ := hvm
   obtain ⟨b0, b1, b2, b3, b4, d0, bf⟩ := HB.out
   have k5 : ¬ TT 1 (tag0 w.heap.size (w.heap.size + 2)) := by rw [tag0_2]; exact tt_5
   have k0 : ¬ TT 1 (tag0 w.heap.size (w.heap.size + 4)) := by rw [tag0_4]; exact tt_0
   have hsz2 := hk.kp.size
   have hs0 := HS0.out
   have hgt : τ2 (w.heap.size + 2) = (0, 5) := (hk.eq _ (by omega)).trans (tag0_2 _)
   have c6 := hv.c6
   have c7 := hv.c7
   have c8 := hv.c8
   have c9 := hv.c9
   have c10 := hv.c10
   have hf7 := hv.fz
   have hml := hv.lt
   rw [HKM.out] at c6 c7 c8 c9 c10 hf7 hml
   have cD := Hd (run_dry (w.heap.size + 4) (w.heap.size + 2) (w.heap.size + 3) EA en ec none 0 0 none 0 0 (t.steps : Int) w2 (fun o => cell_alloc (hk.cellv d0 k0) o) (fun o => cell_alloc c6 o) (fun o => cell_alloc c7 o) (fun o => cell_alloc c8 o) (fun o => cell_alloc c9 o) (fun o => cell_alloc c10 o)
    (fun o => cell_alloc (hk.cellv b0 k5) o) (fun o => cell_alloc (hk.cellv b1 k5) o) (fun o => cell_alloc (hk.cellv b2 k5) o) (fun o => cell_alloc (hk.cellv b3 k5) o) (fun o => cell_alloc (hk.cellv b4 k5) o) (fun o i => frozen_alloc (by omega) ((hk.kp.frozen (p := ⟨w.heap.size + 2, i, none⟩) (by show w.heap.size + 2 < _; omega) k5).trans (bf i)) o) (fun o => frozen_alloc hml (hf7 7) o) (by omega) (by omega))
   have hkq : ∀ W', W' = RunW (w.heap.size + 3) (w.heap.size + 2) ((w2.alloc (.cells #[] 122)).setCell ⟨w.heap.size + 3, 7, none⟩ (.int .i64 3)) (.slice EA en ec) (.slice none 0 0) (.slice none 0 0) (.int .i64 (t.steps : Int)) 3 → Tr (fun x => x = (0, 1) ∨ x = (0, 5)) τ2 w2 τ2 W' := fun W' e => by
    subst e
    have h1 : Kp (fun j => j = w.heap.size + 3 ∨ j = w.heap.size + 2) w2 ((w2.alloc (.cells #[] 122)).setCell ⟨w.heap.size + 3, 7, none⟩ (.int .i64 3)) := ((Kp.refl _ _).alloc _).setCell (p := ⟨w.heap.size + 3, 7, none⟩) (fun _ => .inl rfl) _
    have h2 := h1.trans ((runW_kp (w.heap.size + 3) (w.heap.size + 2) ((w2.alloc (.cells #[] 122)).setCell ⟨w.heap.size + 3, 7, none⟩ (.int .i64 3)) (.slice EA en ec) (.slice none 0 0) (.slice none 0 0) (.int .i64 (t.steps : Int)) 3).mono fun j _ e => .inr e)
    refine ⟨h2.mono fun j _ e => ?_, fun _ _ => rfl, fun j hj => henv.z j (Nat.le_trans h2.size hj)⟩
    rcases e with rfl | rfl
    ·exact .inl (by rw [← HKM.out]; exact hv.tm)
    ·exact .inr hgt
   have HF : Hid (∀ W', W' = RunW (w.heap.size + 3) (w.heap.size + 2) ((w2.alloc (.cells #[] 122)).setCell ⟨w.heap.size + 3, 7, none⟩ (.int .i64 3)) (.slice EA en ec) (.slice none 0 0) (.slice none 0 0) (.int .i64 (t.steps : Int)) 3 → RunP K (.returned (.agg #[.slice EA en ec, .int .i64 3, .slice none 0 0, .slice none 0 0, .int .i64 (t.steps : Int)])) W') := Hd fun W' e => by
    have hT := hkq W' e
    refine ⟨EA, en, ec, 3, none, 0, 0, none, 0, 0, t, τ2, evs, [], [], rfl, hend, henv.tr hT (by simp), RowF.kp hv.r6 hT.kp fun j e => ?_, fun q hq => (hv.tr q hq).tr hT (by simp), hv.ab, SlR.nil_ _ _, ChZ.nil, .inl ⟨hfin, rfl, rfl, rfl⟩, .inl rfl⟩
    show ¬ (τ2 j = (0, 1) ∨ τ2 j = (0, 5))
    rw [hv.t6 j e]
    simp
   have HC : Hid (∀ W', W' = RunW (w.heap.size + 3) (w.heap.size + 2) ((w2.alloc (.cells #[] 122)).setCell ⟨w.heap.size + 3, 7, none⟩ (.int .i64 3)) (.slice EA en ec) (.slice none 0 0) (.slice none 0 0) (.int .i64 (t.steps : Int)) 3 → W'.cell? ⟨w.heap.size + 2, 0, none⟩ = some (.slice EA en ec) ∧ W'.cell? ⟨w.heap.size + 2, 1, none⟩ = some (.int .i64 3) ∧ W'.cell? ⟨w.heap.size + 2, 2, none⟩ = some (.slice none 0 0) ∧ W'.cell? ⟨w.heap.size + 2, 3, none⟩ = some (.slice none 0 0) ∧ W'.cell? ⟨w.heap.size + 2, 4, none⟩ = some (.int .i64 (t.steps : Int))) := Hd fun W' e => by
    subst e
    have q : ∀ i v, W0.cell? ⟨w.heap.size + 2, i, none⟩ = some v → (((w2.alloc (.cells #[] 122)).setCell ⟨w.heap.size + 3, 7, none⟩ (.int .i64 3)).cell? ⟨w.heap.size + 2, i, none⟩).isSome := fun i v h => by
     rw [World.cell?_setCell_other _ _ _ _ (by simp), cell_alloc (hk.cellv h k5)]
     rfl
    exact runW_cells _ _ _ _ _ _ _ _ (q 0 _ b0) (q 1 _ b1) (q 2 _ b2) (q 3 _ b3) (q 4 _ b4)
   clear cA hk henv hv hend hfin b0 b1 b2 b3 b4 d0 bf k5 k0 hsz2 hs0 hgt c6 c7 c8 c9 c10 hf7 hml hkq
   go_wp2_with fail
   refine leaves_cons (f := 53) (args := #[.pointer (some ⟨w.heap.size + 4, 0, none⟩), .pointer (some ⟨w.heap.size + 2, 0, none⟩)]) (by simp) (by simp [go_sem]) ?_
   refine cD.out.mono ?_
   rintro e u' wq ⟨rfl, rfl, hwq⟩
   obtain ⟨e0, e1, e2, e3, e4⟩ := HC.out wq hwq
   have HQ := Hd (HF.out wq hwq)
   clear hwq HC HF
   exact ⟨_, (by simp [results, Tryz.results29, go_sem, e0, e1, e2, e3, e4]), HQ.out⟩
  ·have hfm : ∃ ek rl ch, FinM K τ2 w2 u ek rl ch ∧ FinV u ek rl ch := by
    rcases hfu with ⟨h1, h2⟩ | ⟨rs, h1, h2⟩ | ⟨c, h1, h2⟩
    ·exact ⟨_, _, _, h2, .inl ⟨h1, rfl, rfl, rfl⟩⟩
    ·exact ⟨_, _, _, h2, .inr (.inl ⟨rs, h1, rfl, rfl, rfl⟩)⟩
    ·exact ⟨_, _, _, h2, .inr (.inr ⟨c, h1, rfl, rfl, rfl⟩)⟩
   obtain ⟨ek, rl, ch, ⟨⟨EA, en, ec, evs, RA, rn, rc, CA, cn, cc, c6, c7, c8, c9, c10, hev, htr, hab, hsl, hch, hRA⟩, hfz⟩, hfv2⟩ := hfm
   obtain ⟨b0, b1, b2, b3, b4, d0, bf⟩ := HB.out
   have k5 : ¬ TT 1 (tag0 w.heap.size (w.heap.size + 2)) := by rw [tag0_2]; exact tt_5
   have k0 : ¬ TT 1 (tag0 w.heap.size (w.heap.size + 4)) := by rw [tag0_4]; exact tt_0
   have hsz2 := hk.kp.size
   have hs0 := HS0.out
   have hgt : τ2 (w.heap.size + 2) = (0, 5) := (hk.eq _ (by omega)).trans (tag0_2 _)
   obtain ⟨sv, hsv⟩ : ∃ v : Int, (u.steps : Int) = v := ⟨_, rfl⟩
   rw [hsv] at c10
   rw [HKM.out] at c6 c7 c8 c9 c10
   have c6 : w2.cell? ⟨w.heap.size + 1 + 1 + 1, 6, none⟩ = _ := c6
   have c7 : w2.cell? ⟨w.heap.size + 1 + 1 + 1, 7, none⟩ = _ := c7
   have c8 : w2.cell? ⟨w.heap.size + 1 + 1 + 1, 8, none⟩ = _ := c8
   have c9 : w2.cell? ⟨w.heap.size + 1 + 1 + 1, 9, none⟩ = _ := c9
   have c10 : w2.cell? ⟨w.heap.size + 1 + 1 + 1, 10, none⟩ = _ := c10
   have q0 : w2.cell? ⟨w.heap.size + 1 + 1, 0, none⟩ = _ := hk.cellv b0 k5
   have q1 : w2.cell? ⟨w.heap.size + 1 + 1, 1, none⟩ = _ := hk.cellv b1 k5
   have q2 : w2.cell? ⟨w.heap.size + 1 + 1, 2, none⟩ = _ := hk.cellv b2 k5
   have q3 : w2.cell? ⟨w.heap.size + 1 + 1, 3, none⟩ = _ := hk.cellv b3 k5
   have q4 : w2.cell? ⟨w.heap.size + 1 + 1, 4, none⟩ = _ := hk.cellv b4 k5
   have q5 : w2.cell? ⟨w.heap.size + 1 + 1 + 1 + 1, 0, none⟩ = some (.pointer (some ⟨w.heap.size + 1 + 1 + 1, 0, none⟩)) := hk.cellv d0 k0
   have qf : ∀ i, w2.frozen? ⟨w.heap.size + 1 + 1, i, none⟩ = false := fun i => (hk.kp.frozen (p := ⟨w.heap.size + 2, i, none⟩) (by show w.heap.size + 2 < _; omega) k5).trans (bf i)
   have hkq : Tr (fun x => x = (0, 5)) τ2 w2 τ2 (RunW (w.heap.size + 3) (w.heap.size + 2) w2 (.slice EA en ec) (.slice RA rn rc) (.slice CA cn cc) (.int .i64 sv) ek) := by
    have h2 := runW_kp (w.heap.size + 3) (w.heap.size + 2) w2 (.slice EA en ec) (.slice RA rn rc) (.slice CA cn cc) (.int .i64 sv) ek
    exact ⟨h2.mono fun j _ e => by rw [e]; exact hgt, fun _ _ => rfl, fun j hj => henv.z j (Nat.le_trans h2.size hj)⟩
   have HF : Hid (RunP K (.returned (.agg #[.slice EA en ec, .int .i64 ek, .slice RA rn rc, .slice CA cn cc, .int .i64 sv])) (RunW (w.heap.size + 3) (w.heap.size + 2) w2 (.slice EA en ec) (.slice RA rn rc) (.slice CA cn cc) (.int .i64 sv) ek)) := Hd (by
    refine ⟨EA, en, ec, ek, RA, rn, rc, CA, cn, cc, u, τ2, evs, rl, ch, by rw [hsv], hend, henv.tr hkq (by simp), RowF.kp hev (runW_kp _ _ _ _ _ _ _ _) fun j e e' => ?_, fun q hq => (htr q hq).tr hkq (by simp), hab, SlI.keepAt hsl (runW_kp _ _ _ _ _ _ _ _) hRA fun j hj e => ?_, hch.tr hkq (by simp), hfv2, hRA⟩
    ·have h1 := (row_ge hev e).1
     have h2 := HKM.out
     omega
    ·have h2 := HKM.out
     omega)
   have cI := Hd (run_idle ⟨w.heap.size + 4, 0, none⟩ ⟨w.heap.size + 2, 0, none⟩ (RunW (w.heap.size + 3) (w.heap.size + 2) w2 (.slice EA en ec) (.slice RA rn rc) (.slice CA cn cc) (.int .i64 sv) ek))
   have HC := Hd (runW_cells (w.heap.size + 3) (w.heap.size + 2) w2 (.slice EA en ec) (.slice RA rn rc) (.slice CA cn cc) (.int .i64 sv) ek (by show (w2.cell? ⟨w.heap.size + 1 + 1, 0, none⟩).isSome; rw [q0]; rfl) (by show (w2.cell? ⟨w.heap.size + 1 + 1, 1, none⟩).isSome; rw [q1]; rfl) (by show (w2.cell? ⟨w.heap.size + 1 + 1, 2, none⟩).isSome; rw [q2]; rfl) (by show (w2.cell? ⟨w.heap.size + 1 + 1, 3, none⟩).isSome; rw [q3]; rfl) (by show (w2.cell? ⟨w.heap.size + 1 + 1, 4, none⟩).isSome; rw [q4]; rfl))
   obtain ⟨wr, hwr⟩ : ∃ W, RunW (w.heap.size + 3) (w.heap.size + 2) w2 (.slice EA en ec) (.slice RA rn rc) (.slice CA cn cc) (.int .i64 sv) ek = W := ⟨_, rfl⟩
   rw [hwr] at HF cI HC
   unfold RunW at hwr
   have HWR : Hid (((((w2.setCell ⟨w.heap.size + 1 + 1, 0, none⟩ (.slice EA en ec)).setCell ⟨w.heap.size + 1 + 1, 1, none⟩ (.int .i64 ek)).setCell ⟨w.heap.size + 1 + 1, 2, none⟩ (.slice RA rn rc)).setCell ⟨w.heap.size + 1 + 1, 3, none⟩ (.slice CA cn cc)).setCell ⟨w.heap.size + 1 + 1, 4, none⟩ (.int .i64 sv) = wr) := Hd hwr
   clear cA hk henv hend hev htr hab hsl hch hRA hfz hfv2 b0 b1 b2 b3 b4 d0 bf k5 k0 hsz2 hs0 hgt hkq hwr hfu hsv
   go_wp2_with fail
   try rw [HWR.out]
   refine leaves_cons (f := 53) (args := #[.pointer (some ⟨w.heap.size + 4, 0, none⟩), .pointer (some ⟨w.heap.size + 2, 0, none⟩)]) (by simp) (by simp [go_sem]) ?_
   refine cI.out.mono ?_
   rintro e u' wq ⟨rfl, rfl, rfl⟩
   obtain ⟨e0, e1, e2, e3, e4⟩ := HC.out
   exact ⟨_, (by simp [results, Tryz.results29, go_sem, e0, e1, e2, e3, e4]), HF.out⟩
end
section
open Go.RowKit
variable {fs : List DFunc} {ds ags ds' ags' : List Int} {f g : Nat} {s t u v : Ms}
theorem do_fr (fs : List DFunc) (ds : List Int) (s : Ms) (h : s.fr ≠ []) : (doM fs ds s).fr ≠ [] := by
 cases hfr : s.fr with
 | nil => exact absurd hfr h
 | cons x r =>
  unfold doM
  rw [hfr]
  dsimp only
  repeat' (refine iteP (P := fun t : Ms => t.fr ≠ []) ?_ ?_)
  all_goals first
   | (simp [nextM', raiseM]; done)
   | (unfold reckM; split <;> simp [nextM', raiseM])
theorem end_nil {x : Fr} {r : List Fr} (hfr : s.fr = x :: r) (hw : WfX fs x r) (h : (endM fs s).fr = []) : (endM fs s).fin ≠ none := by
 unfold endM at h ⊢
 rw [hfr] at h ⊢
 dsimp only at h ⊢
 split at h
 ·simp at h
 ·rename_i h1
  rw [if_neg h1]
  cases hc : x.cs.getLast? with
  | some c => rw [hc] at h; simp at h
  | none =>
   rw [hc] at h
   dsimp only at h ⊢
   split at h
   ·rename_i h2
    rw [if_pos h2]
    unfold fallM at h ⊢
    cases r with
    | nil => simp
    | cons y r => simp at h
   ·rename_i h2
    rw [if_neg h2]
    unfold goneM at h ⊢
    split at h
    ·rename_i h3
     have h4 : r = [] := h
     subst h4
     exact absurd h3 (by rw [hw.un.1]; simp)
    ·rename_i h3
     rw [if_neg h3]
     cases r with
     | nil => simp
     | cons y r => simp at h
theorem nil_fin (hf : FineB fs) (h0 : s.fr ≠ []) (hok : OkM fs f s) (r : Reach fs ds f s t) : t.fr = [] → t.fin ≠ none := by
 induction r with
 | refl => exact fun h => absurd h h0
 | @tail a b r1 e ih =>
  rcases step_cases e with ⟨x, r', e1, e2, e3, rfl⟩ | ⟨x, r', e1, e2, rfl⟩
  ·exact fun h => absurd h (do_fr _ _ _ (by show a.fr ≠ []; rw [e1]; simp))
  ·exact end_nil e1 ((reach_ok hf hok r1).wf.x e1)
theorem ends_none (hf : FineB fs) (h : EndsAt fs ds ags f u) (hn : u.fin = none) : u.fr ≠ [] ∧ u.steps = f := by
 have hok := start_ok hf ags f
 have h1 : u.fr ≠ [] := fun e => nil_fin hf (by simp [startM]) hok h.1 e hn
 refine ⟨h1, ?_⟩
 have h2 := (reach_ok hf hok h.1).fu
 cases hfr : u.fr with
 | nil => exact absurd hfr h1
 | cons x r =>
  have h3 := h.2
  by_cases hm : x.mode = 0
  ·rw [stepM_run hfr hm] at h3
   split at h3
   ·cases h3
   ·omega
  ·rw [stepM_end hfr hm] at h3
   cases h3
theorem ends_some (h : EndsAt fs ds ags f u) (hn : u.fin ≠ none) : u.fr = [] := by
 cases hfr : u.fr with
 | nil => rfl
 | cons x r => exact absurd (reach_fin h.1 rfl (by rw [hfr]; simp)) hn
theorem ends_more (hfg : f ≤ g) (h : EndsAt fs ds ags f u) (k : EndsAt fs ds ags g v) : (u.fin ≠ none → v = u) ∧ ∃ l, v.evs = u.evs ++ l := by
 refine ⟨fun hn => ?_, ?_⟩
 ·exact ends_one k ⟨reach_more hfg h.1, stepM_nil (ends_some h hn)⟩
 ·exact reach_evs (reach_end k.1 k.2 (reach_more hfg h.1))
def EndB (fs : List DFunc) (ds ags : List Int) (f : Nat) : Prop := ∃ u, EndsAt fs ds ags f u ∧ u.fin ≠ none
theorem EndB.more (h : EndB fs ds ags f) (hfg : f ≤ g) : EndB fs ds ags g := by
 obtain ⟨u, h1, h2⟩ := h
 exact ⟨u, ⟨reach_more hfg h1.1, stepM_nil (ends_some h1 h2)⟩, h2⟩
theorem EndB.of (h : EndsAt fs ds ags f u) : EndB fs ds ags f ↔ u.fin ≠ none := by
 refine ⟨fun ⟨v, h1, h2⟩ => ?_, fun hn => ⟨u, h, hn⟩⟩
 rw [← ends_one h1 h]
 exact h2
theorem doM_ds (h : ∀ n, ds'.getD n 0 = ds.getD n 0) (s : Ms) : doM fs ds' s = doM fs ds s := by
 unfold doM
 simp only [h]
theorem stepM_ds (h : ∀ n, ds'.getD n 0 = ds.getD n 0) (s : Ms) : stepM fs ds' f s = stepM fs ds f s := by
 unfold stepM
 simp only [doM_ds h]
theorem reach_ds (h : ∀ n, ds'.getD n 0 = ds.getD n 0) (r : Reach fs ds f s t) : Reach fs ds' f s t := by
 induction r with
 | refl => exact .refl _
 | tail _ e ih => exact .tail ih (by rw [stepM_ds h]; exact e)
theorem startM_ags (h : ∀ n, ags'.getD n 0 = ags.getD n 0) : startM fs ags' = startM fs ags := by
 unfold startM argsM
 simp only [h]
theorem ends_zeros (h1 : ∀ n, ds'.getD n 0 = ds.getD n 0) (h2 : ∀ n, ags'.getD n 0 = ags.getD n 0) (h : EndsAt fs ds ags f u) (k : EndsAt fs ds' ags' f v) : v = u := by
 refine ends_one k ⟨?_, by rw [stepM_ds h1]; exact h.2⟩
 rw [startM_ags h2]
 exact reach_ds h1 h.1
theorem getD_zeros (l : List Int) (k n : Nat) : (l ++ List.replicate k 0).getD n 0 = l.getD n 0 := by
 rw [List.getD_eq_getElem?_getD, List.getD_eq_getElem?_getD]
 rcases Nat.lt_or_ge n l.length with h | h
 ·rw [List.getElem?_append_left h]
 ·rw [List.getElem?_append_right h, List.getElem?_eq_none h, List.getElem?_replicate]
  split <;> rfl
end
end Go.Proofs.YtobmjnmcjddhcaaGreat
