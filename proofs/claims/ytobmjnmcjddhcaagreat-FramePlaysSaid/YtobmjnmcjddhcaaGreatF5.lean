import Derived.Test.YtobmjnmcjddhcaaGreatF2
import Derived.Test.YtobmjnmcjddhcaaGreatF3
import Derived.Test.YtobmjnmcjddhcaaGreatF4
import Derived.Test.YtobmjnmcjddhcaaGreatCB1
import Derived.Deep.DeepCutAuto
import Derived.Deep.LoopGhost
import Derived.Test.YtobmjnmcjddhcaaGreatCFiR
import Derived.Test.YtobmjnmcjddhcaaGreatCGs9
set_option linter.unusedSimpArgs false
set_option linter.unusedVariables false
set_option maxRecDepth 100000
set_option maxHeartbeats 4000000
namespace Go.Proofs.YtobmjnmcjddhcaaGreat
open Go.RowKit
attribute [local go_sem] run_store_cplx
theorem fstep_any (X0 : Nat → Prop) (g : Nat) (fno pc : Int) (s : ByteArray) (b : Bool) (A0 : Option Addr) (n0 c0 : Nat) (A1 : Option Addr) (n1 c1 : Nat) (A2 : Option Addr) (n2 c2 : Nat) (A3 : Option Addr) (n3 c3 : Nat) (A4 : Option Addr) (n4 c4 : Nat) (A5 : Option Addr) (n5 c5 : Nat) (A6 : Option Addr) (n6 c6 : Nat) (A7 : Option Addr) (n7 c7 : Nat) (A8 : Option Addr) (n8 c8 : Nat) (M K : Nat) (A13 : Option Addr) (m13 c13 : Nat) (A14 : Option Addr) (n14 c14 : Nat) (A15 : Option Addr) (n15 c15 : Nat) (B1 : Option Addr) (m1 k1 : Nat) (B2 : Option Addr) (m2 k2 : Nat) (B3 : Option Addr) (m3 k3 : Nat) (sl st : List DV) (cs ms : List CW) (k nn vk vn vre vim : Int) (w : World) (hmx : ∀ j, X0 j → j < w.heap.size) (H : FM X0 w g fno pc s b A0 n0 c0 A1 n1 c1 A2 n2 c2 A3 n3 c3 A4 n4 c4 A5 n5 c5 A6 n6 c6 A7 n7 c7 A8 n8 c8 M K A13 m13 c13 A14 n14 c14 A15 n15 c15 B1 m1 k1 B2 m2 k2 B3 m3 k3 sl st cs ms) (hK : K ≤ 1000) (hM : M ≤ 1000) (hn1 : n1 ≤ 1000 ∧ n2 ≤ 1000 ∧ n1 + n2 ≤ M) (wfk : (Lit.int .i64 k).wf = true) (wfn : (Lit.int .i64 nn).wf = true) :
  Calls Tryz.prog 15 #[.pointer (some ⟨g, 0, none⟩), mdV fno pc B1 m1 k1 B2 m2 k2 B3 m3 k3, .agg #[.string s, .bool b, .slice A0 n0 c0, .slice A1 n1 c1, .slice A2 n2 c2, .slice A3 n3 c3, .slice A4 n4 c4, .slice A5 n5 c5, .slice A6 n6 c6, .slice A7 n7 c7, .slice A8 n8 c8], .agg #[.int .i64 k, .int .i64 nn, .int .i64 vk, .int .i64 vn, .int .i64 vre, .int .i64 vim]] w (IsStep X0 g fno s b A0 n0 c0 A1 n1 c1 A2 n2 c2 A3 n3 c3 A4 n4 c4 A5 n5 c5 A6 n6 c6 A7 n7 c7 A8 n8 c8 M K (Own g A13 A14 A15) w) := by
 by_cases h0 : k.tmod 8 = 0
 ·exact fstep_0 X0 g fno pc s b A0 n0 c0 A1 n1 c1 A2 n2 c2 A3 n3 c3 A4 n4 c4 A5 n5 c5 A6 n6 c6 A7 n7 c7 A8 n8 c8 M K A13 m13 c13 A14 n14 c14 A15 n15 c15 B1 m1 k1 B2 m2 k2 B3 m3 k3 sl st cs ms k nn vk vn vre vim w hmx H hK hM hn1 wfk wfn h0
 by_cases h1 : k.tmod 8 = 1
 ·exact fstep_1 X0 g fno pc s b A0 n0 c0 A1 n1 c1 A2 n2 c2 A3 n3 c3 A4 n4 c4 A5 n5 c5 A6 n6 c6 A7 n7 c7 A8 n8 c8 M K A13 m13 c13 A14 n14 c14 A15 n15 c15 B1 m1 k1 B2 m2 k2 B3 m3 k3 sl st cs ms k nn vk vn vre vim w hmx H hK hM hn1 wfk wfn h1
 by_cases h2 : k.tmod 8 = 2
 ·exact fstep_2 X0 g fno pc s b A0 n0 c0 A1 n1 c1 A2 n2 c2 A3 n3 c3 A4 n4 c4 A5 n5 c5 A6 n6 c6 A7 n7 c7 A8 n8 c8 M K A13 m13 c13 A14 n14 c14 A15 n15 c15 B1 m1 k1 B2 m2 k2 B3 m3 k3 sl st cs ms k nn vk vn vre vim w hmx H hK hM hn1 wfk wfn h2
 by_cases h3 : k.tmod 8 = 3
 ·exact fstep_3 X0 g fno pc s b A0 n0 c0 A1 n1 c1 A2 n2 c2 A3 n3 c3 A4 n4 c4 A5 n5 c5 A6 n6 c6 A7 n7 c7 A8 n8 c8 M K A13 m13 c13 A14 n14 c14 A15 n15 c15 B1 m1 k1 B2 m2 k2 B3 m3 k3 sl st cs ms k nn vk vn vre vim w hmx H hK hM hn1 wfk wfn h3
 by_cases h4 : k.tmod 8 = 4
 ·exact fstep_4 X0 g fno pc s b A0 n0 c0 A1 n1 c1 A2 n2 c2 A3 n3 c3 A4 n4 c4 A5 n5 c5 A6 n6 c6 A7 n7 c7 A8 n8 c8 M K A13 m13 c13 A14 n14 c14 A15 n15 c15 B1 m1 k1 B2 m2 k2 B3 m3 k3 sl st cs ms k nn vk vn vre vim w hmx H hK hM hn1 wfk wfn h4
 by_cases h5 : k.tmod 8 = 5
 ·exact fstep_5 X0 g fno pc s b A0 n0 c0 A1 n1 c1 A2 n2 c2 A3 n3 c3 A4 n4 c4 A5 n5 c5 A6 n6 c6 A7 n7 c7 A8 n8 c8 M K A13 m13 c13 A14 n14 c14 A15 n15 c15 B1 m1 k1 B2 m2 k2 B3 m3 k3 sl st cs ms k nn vk vn vre vim w hmx H hK hM hn1 wfk wfn h5
 by_cases h6 : k.tmod 8 = 6
 ·exact fstep_6 X0 g fno pc s b A0 n0 c0 A1 n1 c1 A2 n2 c2 A3 n3 c3 A4 n4 c4 A5 n5 c5 A6 n6 c6 A7 n7 c7 A8 n8 c8 M K A13 m13 c13 A14 n14 c14 A15 n15 c15 B1 m1 k1 B2 m2 k2 B3 m3 k3 sl st cs ms k nn vk vn vre vim w hmx H hK hM hn1 wfk wfn h6
 exact fstep_7 X0 g fno pc s b A0 n0 c0 A1 n1 c1 A2 n2 c2 A3 n3 c3 A4 n4 c4 A5 n5 c5 A6 n6 c6 A7 n7 c7 A8 n8 c8 M K A13 m13 c13 A14 n14 c14 A15 n15 c15 B1 m1 k1 B2 m2 k2 B3 m3 k3 sl st cs ms k nn vk vn vre vim w hmx H hK hM hn1 wfk wfn (by omega)
end Go.Proofs.YtobmjnmcjddhcaaGreat

namespace Go.Proofs.YtobmjnmcjddhcaaGreat
open Go.RowKit
attribute [local go_sem] run_store_cplx
structure PlainW (w : World) (b : Nat) (A : Option Addr) (n c : Nat) (k l : Nat) : Prop where
 c0 : w.cell? ⟨b, 0, none⟩ = some (.string ⟨#[102]⟩)
 c1 : w.cell? ⟨b, 1, none⟩ = some (.bool false)
 c2 : w.cell? ⟨b, 2, none⟩ = some (.slice none 0 0)
 c3 : w.cell? ⟨b, 3, none⟩ = some (.slice A n c)
 c4 : w.cell? ⟨b, 4, none⟩ = some (.slice none 0 0)
 c5 : w.cell? ⟨b, 5, none⟩ = some (.slice none 0 0)
 c6 : w.cell? ⟨b, 6, none⟩ = some (.slice (some ⟨k, 0, none⟩) 1 1)
 c7 : w.cell? ⟨b, 7, none⟩ = some (.slice (some ⟨l, 0, none⟩) 1 1)
 c8 : w.cell? ⟨b, 8, none⟩ = some (.slice none 0 0)
 c9 : w.cell? ⟨b, 9, none⟩ = some (.slice none 0 0)
 c10 : w.cell? ⟨b, 10, none⟩ = some (.slice none 0 0)
 l0 : w.cell? ⟨l, 0, none⟩ = some (.int .i64 1)
theorem plain_any (w : World) : Calls Tryz.prog 36 #[] w fun e w' => ∃ b k l, e = .returned (.agg #[.slice (some ⟨b, 0, none⟩) 1 1]) ∧ PlainW w' b none 0 0 k l ∧ w'.frozen? ⟨b, 3, none⟩ = false ∧ w.heap.size ≤ b ∧ w.heap.size ≤ l ∧ b ≠ l ∧ Below w.heap.size w w' := by
 go_enter Tryz.func36, Tryz.ntmps36
 go_wp2_with fail
 refine bodyPost_ret (v := .agg #[.slice (some ⟨w.heap.size + 1 + 1 + 1, 0, none⟩) 1 1]) (by simp [results, Tryz.results36, go_sem]) rfl ?_
 obtain ⟨w1, hw1⟩ : ∃ w1, w.alloc (.cells #[.slice (some ⟨w.heap.size + 1 + 1 + 1, 0, none⟩) 1 1] 24) = w1 := ⟨_, rfl⟩
 have s1 : w1.heap.size = w.heap.size + 1 := by rw [← hw1]; simp
 rw [hw1]
 obtain ⟨w2, hw2⟩ : ∃ w2, w1.alloc (.cells #[.int .i64 25, .int .i64 0] 113) = w2 := ⟨_, rfl⟩
 have s2 : w2.heap.size = w.heap.size + 1 + 1 := by rw [← hw2]; simp [s1]
 rw [hw2]
 have b2 : Below w.heap.size w w2 := by rw [← hw2, ← hw1]; exact ((Below.refl _ _).alloc (Nat.le_refl _) _).alloc (by simp) _
 obtain ⟨w3, hw3⟩ : ∃ w3, w2.alloc (.cells #[.int .i64 1] 3) = w3 := ⟨_, rfl⟩
 have s3 : w3.heap.size = w.heap.size + 1 + 1 + 1 := by rw [← hw3]; simp [s2]
 have b3 : Below w.heap.size w w3 := by rw [← hw3]; exact b2.alloc (by omega) _
 rw [hw3]
 have l0 : w3.cell? ⟨w.heap.size + 1 + 1, 0, none⟩ = some (.int .i64 1) := by rw [← hw3, ← s2]; exact (new_cells (Below.refl _ _) 0 _ rfl).1
 have N := fun i v h => new_cells (w := w3) (cs := #[.string ⟨#[102]⟩, .bool false, .slice none 0 0, .slice none 0 0, .slice none 0 0, .slice none 0 0, .slice (some ⟨w.heap.size + 1, 0, none⟩) 1 1, .slice (some ⟨w.heap.size + 1 + 1, 0, none⟩) 1 1, .slice none 0 0, .slice none 0 0, .slice none 0 0]) (t := 38) (Below.refl _ _) i v h
 rw [s3] at N
 exact ⟨w.heap.size + 1 + 1 + 1, w.heap.size + 1, w.heap.size + 1 + 1, rfl, ⟨(N 0 _ rfl).1, (N 1 _ rfl).1, (N 2 _ rfl).1, (N 3 _ rfl).1, (N 4 _ rfl).1, (N 5 _ rfl).1, (N 6 _ rfl).1, (N 7 _ rfl).1, (N 8 _ rfl).1, (N 9 _ rfl).1, (N 10 _ rfl).1, (World.cell?_alloc_lt _ _ _ (World.block_lt_of_cell? _ _ l0)).trans l0⟩, (N 3 _ rfl).2, by omega, by omega, by omega, b3.alloc (by omega) _⟩
theorem sli_one {w : World} {b : Nat} {v : Int} (h : w.cell? ⟨b, 0, none⟩ = some (.int .i64 v)) : SlI w w.heap.size (some ⟨b, 0, none⟩) 1 1 [v] := by
 refine ⟨rfl, Nat.le_refl _, by unfold maxLen; omega, by unfold reachBytes; omega, fun _ => ⟨b, 0, rfl, World.block_lt_of_cell? _ _ h, fun i x hi => ⟨[.int .i64 x], rfl, fun j u hj => ?_, rfl⟩⟩⟩
 have hi0 : i = 0 := by have := (List.getElem?_eq_some_iff.1 hi).1; simp at this; omega
 subst hi0
 simp at hi
 subst hi
 have hj0 : j = 0 := by have := (List.getElem?_eq_some_iff.1 hj).1; simp at this; omega
 subst hj0
 simp at hj
 subst hj
 exact h
theorem sli_nl (w : World) (B : Nat) : SlI w B none 0 0 [] := ⟨rfl, Nat.le_refl _, by unfold maxLen; omega, by unfold reachBytes; omega, fun h => absurd h (Nat.lt_irrefl _)⟩
theorem vn_field (k n : Int) (x y : Nat) : ∀ w, (Instr.field 43 (vV k n x y) 1).run Tryz.prog w = .ok (.int .i64 n) w := fun _ => by kernel_rfl
theorem frame_lives (w : World) : Calls Tryz.prog 10 #[] w fun e w' => e = .returned (.bool true) ∧ Below w.heap.size w w' := by
 go_enter Tryz.func10, Tryz.ntmps10
 go_wp2_with fail
 refine (plain_any _).mono ?_
 rintro e w1 ⟨b, k, l, rfl, hp, hf3, hbw, hlw, hbl, hb1⟩
 have hbs : b < w1.heap.size := World.block_lt_of_cell? _ _ hp.c0
 have q3 := hp.c3
 have HP := Lib.hid hp
 have HB1 := Lib.hid hb1
 clear hb1 hp
 go_wp2_with fail
 obtain ⟨W0, hW0⟩ : ∃ W0, (w1.setCell ⟨b, 3, none⟩ (.slice (some ⟨w1.heap.size + 1, 0, none⟩) 1 1)).alloc (.cells #[.slice (some ⟨b, 0, none⟩) 1 1] 24) = W0 := ⟨_, rfl⟩
 have z0 : W0.heap.size = w1.heap.size + 1 := by rw [← hW0]; simp
 rw [hW0]
 obtain ⟨W1, hW1⟩ : ∃ W1, W0.alloc (.cells #[.int .i64 1] 40) = W1 := ⟨_, rfl⟩
 have z1 : W1.heap.size = w1.heap.size + 1 + 1 := by rw [← hW1]; simp [z0]
 rw [hW1]
 obtain ⟨W2, hW2⟩ : ∃ W2, W1.alloc (.cells #[.int .i64 1, .int .i64 5, .complex .f64 0 0] 43) = W2 := ⟨_, rfl⟩
 rw [hW2]
 have k0 : Kp (fun j => j = b) w1 W2 := by
  rw [← hW2, ← hW1, ← hW0]
  exact ((Kp.setCell (S := fun j => j = b) (Kp.refl _ _) (p := ⟨b, 3, none⟩) (fun _ => rfl) _).alloc _ |>.alloc _).alloc _
 have hs0 : (w1.setCell ⟨b, 3, none⟩ (.slice (some ⟨w1.heap.size + 1, 0, none⟩) 1 1)).heap.size = w1.heap.size := by simp
 have mv : ∀ i, W2.cell? ⟨b, i, none⟩ = (w1.setCell ⟨b, 3, none⟩ (.slice (some ⟨w1.heap.size + 1, 0, none⟩) 1 1)).cell? ⟨b, i, none⟩ := fun i => by
  rw [← hW2, World.cell?_alloc_lt _ _ _ (by show b < _; omega), ← hW1, World.cell?_alloc_lt _ _ _ (by show b < _; omega), ← hW0, World.cell?_alloc_lt _ _ _ (by show b < _; omega)]
 have mo : ∀ i v, i ≠ 3 → w1.cell? ⟨b, i, none⟩ = some v → W2.cell? ⟨b, i, none⟩ = some v := fun i v hi hv => by
  rw [mv, World.cell?_setCell_other _ _ _ _ (by simp; try omega)]
  exact hv
 have m3 : W2.cell? ⟨b, 3, none⟩ = some (.slice (some ⟨w1.heap.size + 1, 0, none⟩) 1 1) := by rw [mv]; simp [go_sem, q3]
 have p := HP.out
 have P2 : PlainW W2 b (some ⟨w1.heap.size + 1, 0, none⟩) 1 1 k l := ⟨mo 0 _ (by decide) p.c0, mo 1 _ (by decide) p.c1, mo 2 _ (by decide) p.c2, m3, mo 4 _ (by decide) p.c4, mo 5 _ (by decide) p.c5, mo 6 _ (by decide) p.c6, mo 7 _ (by decide) p.c7, mo 8 _ (by decide) p.c8, mo 9 _ (by decide) p.c9, mo 10 _ (by decide) p.c10, k0.cellv p.l0 (Ne.symm hbl)⟩
 have pp : W2.cell? ⟨w1.heap.size + 1, 0, none⟩ = some (.int .i64 1) := by
  rw [← hW2, World.cell?_alloc_lt _ _ _ (by show w1.heap.size + 1 < _; omega), ← hW1, ← z0]
  exact (new_cells (Below.refl _ _) 0 _ rfl).1
 have aa : ∀ i v, #[Value.int .i64 1, .int .i64 5, .complex .f64 0 0][i]? = some v → W2.cell? ⟨w1.heap.size + 1 + 1, i, none⟩ = some v := fun i v hv => by
  rw [← hW2, ← z1]
  exact (new_cells (Below.refl _ _) i v hv).1
 have hbW2 : b < W2.heap.size := World.block_lt_of_cell? _ _ P2.c0
 have hsrc : SrcV W2 (some ⟨w1.heap.size + 1 + 1, 0, none⟩) 1 [⟨1, 5, 0, 0⟩] := ⟨rfl, fun h => (by cases h), rfl, fun h => (by cases h), fun ad ha j u hj => by
  injection ha with ha
  subst ha
  rw [addr_add, Nat.zero_add]
  exact aa j u (by simpa [rowVl, DV.c] using hj)⟩
 have hcf : ∀ (j : Nat) (u : Value), [.string ⟨#[102]⟩, .bool false, .slice none 0 0, .slice (some ⟨w1.heap.size + 1, 0, none⟩) 1 1, .slice none 0 0, .slice none 0 0, .slice (some ⟨k, 0, none⟩) 1 1, .slice (some ⟨l, 0, none⟩) 1 1, .slice none 0 0, .slice none 0 0, .slice none 0 0][j]? = some u → W2.cell? ⟨b, 0 + 0 * 11 + j, none⟩ = some u := fun j u hj => by
  have hj11 : j < 11 := (List.getElem?_eq_some_iff.1 hj).1
  rw [show 0 + 0 * 11 + j = j from by omega]
  match j, hj11 with
  | 0, _ => rw [P2.c0]; exact hj
  | 1, _ => rw [P2.c1]; exact hj
  | 2, _ => rw [P2.c2]; exact hj
  | 3, _ => rw [P2.c3]; exact hj
  | 4, _ => rw [P2.c4]; exact hj
  | 5, _ => rw [P2.c5]; exact hj
  | 6, _ => rw [P2.c6]; exact hj
  | 7, _ => rw [P2.c7]; exact hj
  | 8, _ => rw [P2.c8]; exact hj
  | 9, _ => rw [P2.c9]; exact hj
  | 10, _ => rw [P2.c10]; exact hj
 have cn := Lib.hid (new_any ⟨#[102]⟩ false none 0 0 (some ⟨w1.heap.size + 1, 0, none⟩) 1 1 none 0 0 none 0 0 (some ⟨k, 0, none⟩) 1 1 (some ⟨l, 0, none⟩) 1 1 none 0 0 none 0 0 none 0 0 ⟨⟨#[102]⟩, false, [], [1], [], [], [], [1], [], [], []⟩ b 0 1 1 0 (some ⟨w1.heap.size + 1 + 1, 0, none⟩) 1 1 [⟨1, 5, 0, 0⟩] W2 hbW2 hcf ⟨sli_one pp, sli_nl _ _, sli_nl _ _, by omega⟩ (by omega) (by omega) hsrc (by omega))
 have HLW : Hid (W2.cell? ⟨l, 0, none⟩ = some (.int .i64 1)) := Lib.hid P2.l0
 have HB2 : Hid (Below w.heap.size w W2) := Lib.hid (HB1.out.trans (k0.below (HB1.out.size) (fun j hj => by subst hj; exact hbw)))
 clear q3 hf3 hbw hlw hbl hbs HP HB1 hW0 hW1 hW2 z0 z1 k0 hs0 mv mo m3 p P2 pp aa hbW2 hsrc hcf
 go_wp2_with fail
 refine cn.out.mono ?_
 rintro e w3 ⟨g, A13, m13, c13, rfl, hg, hF, hb3⟩
 rw [show slM ([1] ++ [] ++ []) 1 [(⟨1, 5, 0, 0⟩ : DV)] = [⟨1, 5, 0, 0⟩] from rfl] at hF
 have HF := Lib.hid hF
 have HG : Hid (w.heap.size ≤ g) := Lib.hid (Nat.le_trans HB2.out.size hg)
 have HB3 := Lib.hid (bl_trans HB2.out HB2.out.size hb3)
 have HLL : Hid (w3.cell? ⟨l, 0, none⟩ = some (.int .i64 1) ∧ ¬ l = g ∧ l < g) := Lib.hid (by
  have h1 := World.block_lt_of_cell? _ _ HLW.out
  dsimp only at h1
  exact ⟨(hb3.cell (World.block_lt_of_cell? _ _ HLW.out)).trans HLW.out, by omega, by omega⟩)
 have hzz : (0 : Nat) < 1 := by omega
 have cpu := fpush_any g (g + 1) none 0 0 [] ⟨1, 3, 0, 0⟩ w3 hF.e14 (hF.fz 14) hF.r14 (by omega) hF.lt (by omega)
 rw [show (⟨1, 3, 0, 0⟩ : DV).v = .agg #[.int .i64 1, .int .i64 3, .complex .f64 0 0] from rfl] at cpu
 have cpu := Lib.hid cpu
 clear hF hg hb3 cn
 go_wp2_with fail
 refine cpu.out.mono ?_
 rintro e w4 ⟨⟨u, rfl⟩, A', c', hp⟩
 have HF4 := Lib.hid (HF.out.st hp.kp hp.ci hp.co hp.fz (show RowV w4 (g + 1) A' 1 c' [⟨1, 3, 0, 0⟩] from hp.row) hp.nw (fun _ h => h.elim))
 have HB4 : Hid (Below w.heap.size w w4) := Lib.hid (HB3.out.trans (hp.kp.below HB3.out.size fun j hj => hj.elim (fun e => by have := HG.out; omega) fun e => by cases e))
 have HL4 : Hid (w4.cell? ⟨l, 0, none⟩ = some (.int .i64 1)) := Lib.hid (hp.kp.cellv HLL.out.1 fun hj => hj.elim HLL.out.2.1 fun e => by cases e)
 have csl := fslot_any g (g + 1) A13 m13 c13 [⟨1, 5, 0, 0⟩] 0 w4 HF4.out.e13 HF4.out.r13
 rw [show (slotM [(⟨1, 5, 0, 0⟩ : DV)] 0).v = vV 1 5 0 0 from rfl] at csl
 have csl := Lib.hid csl
 have hfd1 := vn_field 1 5 0 0
 have hfd2 := vn_field 1 3 0 0
 clear hp cpu
 go_wp2_with fail
 refine csl.out.mono ?_
 rintro e w5 ⟨rfl, hb5⟩
 have HB5 := Lib.hid (bl_trans HB4.out HB4.out.size hb5)
 have HF5 := Lib.hid (HF4.out.on hb5)
 have HL5 : Hid (w5.cell? ⟨l, 0, none⟩ = some (.int .i64 1)) := Lib.hid ((hb5.cell (World.block_lt_of_cell? _ _ HL4.out)).trans HL4.out)
 have chi := Lib.hid (fhigh_any g A' 1 c' w5 HF5.out.e14)
 clear hb5 csl
 go_wp2_with fail
 refine chi.out.mono ?_
 rintro e w6 ⟨rfl, hb6⟩
 have HB6 := Lib.hid (bl_trans HB5.out HB5.out.size hb6)
 have HF6 := Lib.hid (HF5.out.on hb6)
 have HL6 : Hid (w6.cell? ⟨l, 0, none⟩ = some (.int .i64 1)) := Lib.hid ((hb6.cell (World.block_lt_of_cell? _ _ HL5.out)).trans HL5.out)
 have cpo := fpop_any g (g + 1) A' 1 c' [⟨1, 3, 0, 0⟩] w6 HF6.out.e14 (HF6.out.fz 14) HF6.out.r14 (by omega) (by omega)
 rw [show (topV [(⟨1, 3, 0, 0⟩ : DV)]).v = vV 1 3 0 0 from rfl] at cpo
 have cpo := Lib.hid cpo
 clear hb6 chi
 go_wp2_with fail
 refine cpo.out.mono ?_
 rintro e w7 ⟨rfl, hp⟩
 have HB7 : Hid (Below w.heap.size w w7) := Lib.hid (HB6.out.trans (hp.kp.below HB6.out.size fun j hj => by have := HG.out; omega))
 have h7 := (hp.co 7 (by decide)).trans HF6.out.fn.e7
 have h12 := (hp.co 12 (by decide)).trans HF6.out.e12
 have hl7 := hp.kp.cellv HL6.out HLL.out.2.1
 have cli := fline_any g (some ⟨l, 0, none⟩) 1 1 [1] 0 w7 h7 h12 (sli_one hl7)
 rw [show lineZ [1] 0 = 1 from rfl] at cli
 have cli := Lib.hid cli
 clear hp h7 h12 hl7 cpo
 go_wp2_with fail
 refine cli.out.mono ?_
 rintro e w8 ⟨rfl, hb8⟩
 have HB8 := Lib.hid (bl_trans HB7.out HB7.out.size hb8)
 clear hb8
 go_wp2_with fail
 go_ret
 exact ⟨rfl, HB8.out⟩
end Go.Proofs.YtobmjnmcjddhcaaGreat

namespace Go.Proofs.YtobmjnmcjddhcaaGreat
open Go.ChangeShapes Go.WideShapes Go.ChangeAt Go.RowKit Go.Deep
structure DFour where
 k : Int
 n : Int
 re : Int
 im : Int
def RFour : Rd DFour := fun w B cs x => cs = [.int .i64 x.k, .int .i64 x.n, .int .i64 x.re, .int .i64 x.im] ∧ (Lit.int .i64 x.k).wf = true ∧ (Lit.int .i64 x.n).wf = true ∧ (Lit.int .i64 x.re).wf = true ∧ (Lit.int .i64 x.im).wf = true
theorem stable_Four : Stable RFour := by
 intro w w' B cs x h hk
 obtain ⟨e, q0, q1, q2, q3⟩ := h
 exact ⟨e, q0, q1, q2, q3⟩
theorem conv_Four : Conv Tryz.prog 45 RFour := by
 intro H enc w B fuel cs y h hp hw
 obtain ⟨ys, n, hn, rfl, hcl, hyl, hf⟩ := DataW.trod_struct Tryz.underlying45 h
 rw [show Tryz.prog.cellsOf 45 = 4 from by kernel_rfl] at hcl
 obtain ⟨k0, k1, k2, k3, rfl⟩ := len4 hcl
 obtain ⟨y0, y1, y2, y3, rfl⟩ := len4 hyl
 have g0 : DataW.trod enc Tryz.prog w 0 (fun _ => true) true n 40 [k0] = some y0 := by
  have hk1 : Tryz.prog.cellsOf 40 = 1 := by kernel_rfl
  have h1 : DataW.trod enc Tryz.prog w 0 (fun _ => true) true n 40 (List.take (Tryz.prog.cellsOf 40) (List.drop 0 [k0, k1, k2, k3])) = [y0, y1, y2, y3][0]? := hf 0 _ rfl
  rw [hk1] at h1
  exact h1
 obtain ⟨x0, hx0⟩ := (conv_int Tryz.underlying40) g0 (fun p hp1 => hp p (by simp [hp1])) (fun m hm => hw m (by simp [DataW.weights, Tryz.underlying45, DataW.weightsEach, hm]))
 have g1 : DataW.trod enc Tryz.prog w 0 (fun _ => true) true n 3 [k1] = some y1 := by
  have hk1 : Tryz.prog.cellsOf 3 = 1 := by kernel_rfl
  have h1 : DataW.trod enc Tryz.prog w 0 (fun _ => true) true n 3 (List.take (Tryz.prog.cellsOf 3) (List.drop 1 [k0, k1, k2, k3])) = [y0, y1, y2, y3][1]? := hf 1 _ rfl
  rw [hk1] at h1
  exact h1
 obtain ⟨x1, hx1⟩ := (conv_int Tryz.underlying3) g1 (fun p hp1 => hp p (by simp [hp1])) (fun m hm => hw m (by simp [DataW.weights, Tryz.underlying45, DataW.weightsEach, hm]))
 have g2 : DataW.trod enc Tryz.prog w 0 (fun _ => true) true n 3 [k2] = some y2 := by
  have hk1 : Tryz.prog.cellsOf 3 = 1 := by kernel_rfl
  have h1 : DataW.trod enc Tryz.prog w 0 (fun _ => true) true n 3 (List.take (Tryz.prog.cellsOf 3) (List.drop 2 [k0, k1, k2, k3])) = [y0, y1, y2, y3][2]? := hf 2 _ rfl
  rw [hk1] at h1
  exact h1
 obtain ⟨x2, hx2⟩ := (conv_int Tryz.underlying3) g2 (fun p hp1 => hp p (by simp [hp1])) (fun m hm => hw m (by simp [DataW.weights, Tryz.underlying45, DataW.weightsEach, hm]))
 have g3 : DataW.trod enc Tryz.prog w 0 (fun _ => true) true n 3 [k3] = some y3 := by
  have hk1 : Tryz.prog.cellsOf 3 = 1 := by kernel_rfl
  have h1 : DataW.trod enc Tryz.prog w 0 (fun _ => true) true n 3 (List.take (Tryz.prog.cellsOf 3) (List.drop 3 [k0, k1, k2, k3])) = [y0, y1, y2, y3][3]? := hf 3 _ rfl
  rw [hk1] at h1
  exact h1
 obtain ⟨x3, hx3⟩ := (conv_int Tryz.underlying3) g3 (fun p hp1 => hp p (by simp [hp1])) (fun m hm => hw m (by simp [DataW.weights, Tryz.underlying45, DataW.weightsEach, hm]))
 obtain ⟨e0, q0⟩ := hx0
 obtain ⟨e1, q1⟩ := hx1
 obtain ⟨e2, q2⟩ := hx2
 obtain ⟨e3, q3⟩ := hx3
 simp only [List.cons.injEq, and_true] at e0 e1 e2 e3
 subst e0 e1 e2 e3
 exact ⟨⟨x0, x1, x2, x3⟩, rfl, q0, q1, q2, q3⟩
theorem len6 {α : Type} {l : List α} (h : l.length = 6) : ∃ a b c d e f, l = [a, b, c, d, e, f] := by match l, h with | [a, b, c, d, e, f], _ => exact ⟨a, b, c, d, e, f, rfl⟩
structure DOp28 where
 k : Int
 n : Int
 v : DFour
def ROp28 : Rd DOp28 := fun w B cs x => cs = [.int .i64 x.k, .int .i64 x.n, .int .i64 x.v.k, .int .i64 x.v.n, .int .i64 x.v.re, .int .i64 x.v.im] ∧ (Lit.int .i64 x.k).wf = true ∧ (Lit.int .i64 x.n).wf = true ∧ (Lit.int .i64 x.v.k).wf = true ∧ (Lit.int .i64 x.v.n).wf = true ∧ (Lit.int .i64 x.v.re).wf = true ∧ (Lit.int .i64 x.v.im).wf = true
theorem stable_Op28 : Stable ROp28 := fun w w' B cs x h hk => h
theorem conv_Op28 : Conv Tryz.prog 56 ROp28 := by
 intro H enc w B fuel cs y h hp hw
 obtain ⟨ys, n, hn, rfl, hcl, hyl, hf⟩ := DataW.trod_struct Tryz.underlying56 h
 rw [show Tryz.prog.cellsOf 56 = 6 from by kernel_rfl] at hcl
 obtain ⟨k0, k1, k2, k3, k4, k5, rfl⟩ := len6 hcl
 obtain ⟨y0, y1, y2, rfl⟩ := len3 hyl
 have g0 : DataW.trod enc Tryz.prog w 0 (fun _ => true) true n 3 [k0] = some y0 := by
  have hk1 : Tryz.prog.cellsOf 3 = 1 := by kernel_rfl
  have h1 : DataW.trod enc Tryz.prog w 0 (fun _ => true) true n 3 (List.take (Tryz.prog.cellsOf 3) (List.drop 0 [k0, k1, k2, k3, k4, k5])) = [y0, y1, y2][0]? := hf 0 _ rfl
  rw [hk1] at h1
  exact h1
 obtain ⟨x0, hx0⟩ := (conv_int Tryz.underlying3) g0 (fun p hp1 => hp p (by simp [hp1])) (fun m hm => hw m (by simp [DataW.weights, Tryz.underlying56, DataW.weightsEach, hm]))
 have g1 : DataW.trod enc Tryz.prog w 0 (fun _ => true) true n 3 [k1] = some y1 := by
  have hk1 : Tryz.prog.cellsOf 3 = 1 := by kernel_rfl
  have h1 : DataW.trod enc Tryz.prog w 0 (fun _ => true) true n 3 (List.take (Tryz.prog.cellsOf 3) (List.drop 1 [k0, k1, k2, k3, k4, k5])) = [y0, y1, y2][1]? := hf 1 _ rfl
  rw [hk1] at h1
  exact h1
 obtain ⟨x1, hx1⟩ := (conv_int Tryz.underlying3) g1 (fun p hp1 => hp p (by simp [hp1])) (fun m hm => hw m (by simp [DataW.weights, Tryz.underlying56, DataW.weightsEach, hm]))
 have g2 : DataW.trod enc Tryz.prog w 0 (fun _ => true) true n 45 [k2, k3, k4, k5] = some y2 := by
  have hk1 : Tryz.prog.cellsOf 45 = 4 := by kernel_rfl
  have h1 : DataW.trod enc Tryz.prog w 0 (fun _ => true) true n 45 (List.take (Tryz.prog.cellsOf 45) (List.drop 2 [k0, k1, k2, k3, k4, k5])) = [y0, y1, y2][2]? := hf 2 _ rfl
  rw [hk1] at h1
  exact h1
 obtain ⟨x2, hx2⟩ := conv_Four g2 (fun p hp1 => hp p (by simp [hp1])) (fun m hm => hw m (by simp [DataW.weights, Tryz.underlying56, DataW.weightsEach, hm]))
 obtain ⟨e0, q0⟩ := hx0
 obtain ⟨e1, q1⟩ := hx1
 obtain ⟨e2, q2, q3, q4, q5⟩ := hx2
 simp only [List.cons.injEq, and_true] at e0 e1 e2
 obtain ⟨rfl, rfl, rfl, rfl⟩ := e2
 subst e0 e1
 exact ⟨⟨x0, x1, x2⟩, rfl, q0, q1, q2, q3, q4, q5⟩
structure DCase28 where
 f : Int
 args : List DFour
 ops : List DOp28
def RCase28 : Rd DCase28 := fun w B cs x => ∃ A0 n0 c0, ∃ A1 n1 c1, cs = [.int .i64 x.f, .slice A0 n0 c0, .slice A1 n1 c1] ∧ (Lit.int .i64 x.f).wf = true ∧ SlR 4 32 RFour w B A0 n0 c0 x.args ∧ SlR 6 48 ROp28 w B A1 n1 c1 x.ops
theorem conv_Case28 : Conv Tryz.prog 28 RCase28 := by
 intro H enc w B fuel cs y h hp hw
 obtain ⟨ys, n, hn, rfl, hcl, hyl, hf⟩ := DataW.trod_struct Tryz.underlying28 h
 rw [show Tryz.prog.cellsOf 28 = 3 from by kernel_rfl] at hcl
 obtain ⟨k0, k1, k2, rfl⟩ := len3 hcl
 obtain ⟨y0, y1, y2, rfl⟩ := len3 hyl
 have g0 : DataW.trod enc Tryz.prog w 0 (fun _ => true) true n 3 [k0] = some y0 := by
  have hk1 : Tryz.prog.cellsOf 3 = 1 := by kernel_rfl
  have h1 : DataW.trod enc Tryz.prog w 0 (fun _ => true) true n 3 (List.take (Tryz.prog.cellsOf 3) (List.drop 0 [k0, k1, k2])) = [y0, y1, y2][0]? := hf 0 _ rfl
  rw [hk1] at h1
  exact h1
 obtain ⟨x0, hx0⟩ := (conv_int Tryz.underlying3) g0 (fun p hp1 => hp p (by simp [hp1])) (fun m hm => hw m (by simp [DataW.weights, Tryz.underlying28, DataW.weightsEach, hm]))
 have g1 : DataW.trod enc Tryz.prog w 0 (fun _ => true) true n 25 [k1] = some y1 := by
  have hk1 : Tryz.prog.cellsOf 25 = 1 := by kernel_rfl
  have h1 : DataW.trod enc Tryz.prog w 0 (fun _ => true) true n 25 (List.take (Tryz.prog.cellsOf 25) (List.drop 1 [k0, k1, k2])) = [y0, y1, y2][1]? := hf 1 _ rfl
  rw [hk1] at h1
  exact h1
 obtain ⟨x1, hx1⟩ := (conv_sl (sz := 4) (bytes := 32) (R := RFour) Tryz.underlying25 (by kernel_rfl) (by kernel_rfl) (by omega) conv_Four) g1 (fun p hp1 => hp p (by simp [hp1])) (fun m hm => hw m (by simp [DataW.weights, Tryz.underlying28, DataW.weightsEach, hm]))
 have g2 : DataW.trod enc Tryz.prog w 0 (fun _ => true) true n 26 [k2] = some y2 := by
  have hk1 : Tryz.prog.cellsOf 26 = 1 := by kernel_rfl
  have h1 : DataW.trod enc Tryz.prog w 0 (fun _ => true) true n 26 (List.take (Tryz.prog.cellsOf 26) (List.drop 2 [k0, k1, k2])) = [y0, y1, y2][2]? := hf 2 _ rfl
  rw [hk1] at h1
  exact h1
 obtain ⟨x2, hx2⟩ := (conv_sl (sz := 6) (bytes := 48) (R := ROp28) Tryz.underlying26 (by kernel_rfl) (by kernel_rfl) (by omega) conv_Op28) g2 (fun p hp1 => hp p (by simp [hp1])) (fun m hm => hw m (by simp [DataW.weights, Tryz.underlying28, DataW.weightsEach, hm]))
 obtain ⟨e0, q0⟩ := hx0
 obtain ⟨A1, n1, c1, e1, q1⟩ := hx1
 obtain ⟨A2, n2, c2, e2, q2⟩ := hx2
 simp only [List.cons.injEq, and_true] at e0 e1 e2
 subst e0 e1 e2
 exact ⟨⟨x0, x1, x2⟩, A1, n1, c1, A2, n2, c2, rfl, q0, q1, q2⟩
end Go.Proofs.YtobmjnmcjddhcaaGreat

namespace Go.Proofs.YtobmjnmcjddhcaaGreat
open Go.RowKit
attribute [local go_sem] run_store_cplx
theorem four_at {w : World} {B : Nat} {A : Option Addr} {n c : Nat} {xs : List DFour} (h : SlR 4 32 RFour w B A n c xs) {k : Nat} (hk : k < n) : ∃ b off x, A = some ⟨b, off, none⟩ ∧ b < B ∧ xs[k]? = some x ∧ w.cell? ⟨b, off + k * 4, none⟩ = some (.int .i64 x.k) ∧ w.cell? ⟨b, off + k * 4 + 1, none⟩ = some (.int .i64 x.n) ∧ w.cell? ⟨b, off + k * 4 + 2, none⟩ = some (.int .i64 x.re) ∧ w.cell? ⟨b, off + k * 4 + 3, none⟩ = some (.int .i64 x.im) := by
 obtain ⟨b, off, x, cs, hA, hb, hx, _, hc, hr⟩ := h.at_ hk
 obtain ⟨rfl, _⟩ := hr
 exact ⟨b, off, x, hA, hb, hx, by simpa using hc 0 _ rfl, by simpa [Nat.add_assoc] using hc 1 _ rfl, by simpa [Nat.add_assoc] using hc 2 _ rfl, by simpa [Nat.add_assoc] using hc 3 _ rfl⟩
theorem op28_at {w : World} {B : Nat} {A : Option Addr} {n c : Nat} {xs : List DOp28} (h : SlR 6 48 ROp28 w B A n c xs) {k : Nat} (hk : k < n) : ∃ b off x, A = some ⟨b, off, none⟩ ∧ b < B ∧ xs[k]? = some x ∧ ((Lit.int .i64 x.k).wf = true ∧ (Lit.int .i64 x.n).wf = true) ∧ w.cell? ⟨b, off + k * 6, none⟩ = some (.int .i64 x.k) ∧ w.cell? ⟨b, off + k * 6 + 1, none⟩ = some (.int .i64 x.n) ∧ w.cell? ⟨b, off + k * 6 + 2, none⟩ = some (.int .i64 x.v.k) ∧ w.cell? ⟨b, off + k * 6 + 3, none⟩ = some (.int .i64 x.v.n) ∧ w.cell? ⟨b, off + k * 6 + 4, none⟩ = some (.int .i64 x.v.re) ∧ w.cell? ⟨b, off + k * 6 + 5, none⟩ = some (.int .i64 x.v.im) := by
 obtain ⟨b, off, x, cs, hA, hb, hx, _, hc, hr⟩ := h.at_ hk
 obtain ⟨rfl, z1, z2, _⟩ := hr
 exact ⟨b, off, x, hA, hb, hx, ⟨z1, z2⟩, by simpa using hc 0 _ rfl, by simpa [Nat.add_assoc] using hc 1 _ rfl, by simpa [Nat.add_assoc] using hc 2 _ rfl, by simpa [Nat.add_assoc] using hc 3 _ rfl, by simpa [Nat.add_assoc] using hc 4 _ rfl, by simpa [Nat.add_assoc] using hc 5 _ rfl⟩
def dvOf (a : DFour) : DV := ⟨a.k, a.n, nr a.re, nr a.im⟩
theorem slM_at {ts : List Int} {n1 : Nat} {args : List DV} (h : n1 ≤ ts.length) {j : Nat} {t : Int} (ht : ts[j]? = some t) : (slM ts n1 args)[j]? = if j < n1 ∧ j < args.length then args[j]? else some (zD t) := by
 have hj := (List.getElem?_eq_some_iff.1 ht).1
 unfold slM
 have hl : (args.take n1).length = min n1 args.length := by rw [List.length_take]
 by_cases h1 : j < n1 ∧ j < args.length
 ·rw [if_pos h1, List.getElem?_append_left (by omega), List.getElem?_take, if_pos h1.1]
 ·rw [if_neg h1, List.getElem?_append_right (by omega), List.getElem?_drop, hl, show min n1 args.length + (j - min n1 args.length) = j from by omega, List.getElem?_map, ht]
  rfl
theorem take_put {l : List DV} {j : Nat} {a z : DV} (h : l[j]? = some a) : (l.take j ++ [z]).set j a = l.take (j + 1) := by
 have hj := (List.getElem?_eq_some_iff.1 h).1
 rw [List.set_append_right _ _ (by rw [List.length_take]; omega), List.length_take, Nat.min_eq_left (by omega), Nat.sub_self, List.take_add_one, h]
 rfl
theorem fine_get {w : World} {FA : Option Addr} {fn fc : Nat} {fs : List DFunc} (h : PgO w FA fn fc fs) (hf : FineM fs) : PgC w FA fn fc fs := ⟨h, hf.can⟩
structure SLW (w9 wr : World) (mb : Nat) (f : Int) (S : Option Addr) (j c : Nat) (l : List DV) : Prop where
 kp : Kp (fun q => q = mb) w9 wr
 cm : Cells wr mb [.int .i64 f, .int .i64 0, .slice S j c, .slice none 0 0, .slice none 0 0]
 row : RowV wr w9.heap.size S j c l
theorem SLW.put {w9 wr W W' : World} {mb : Nat} {f : Int} {S S' : Option Addr} {j c c' : Nat} {l : List DV} {z : DV} (h : SLW w9 wr mb f S j c l) (hmb : mb < w9.heap.size) (hb : Below wr.heap.size wr W) (hown : W'.ownsRow w9.heap.size 43 3 (.slice S' (j + 1) c') (j + 1) (rowVl l ++ [.int .i64 z.k, .int .i64 z.n, .complex .f64 z.x z.y])) (hk : Kp (fun k => S = some ⟨k, 0, none⟩) W W') :
  SLW w9 (W'.setCell ⟨mb, 2, none⟩ (.slice S' (j + 1) c')) mb f S' (j + 1) c' (l ++ [z]) := by
 have h1 : Kp (fun q => q = mb) w9 W' := ((h.kp.ofBelow hb).trans' hk fun k hk h' => h'.elim id fun e => by have := (row_ge h.row e).1; omega)
 have hS : ¬ S = some ⟨mb, 0, none⟩ := fun e => by have := (row_ge h.row e).1; omega
 have hc := ((h.cm.on hb).kp hk hS).put 2 (by simp) (.slice S' (j + 1) c')
 refine ⟨h1.setCell (p := ⟨mb, 2, none⟩) (fun _ => rfl) _, hc, ?_⟩
 have hr := RowF.ofOwn hown
 rw [← rowVl_snoc] at hr
 exact RowF.set hr ⟨mb, 2, none⟩ (fun q hq => by have := (row_ge hr hq).1; show q ≠ mb; omega) _
theorem SLW.three {w9 wr : World} {mb : Nat} {f : Int} {r j c i : Nat} {l : List DV} (h : SLW w9 wr mb f (some ⟨r, 0, none⟩) j c l) (hmb : mb < w9.heap.size) (hi : i < j) (a : DV) : SLW w9 (((wr.setCell ⟨r, i * 3, none⟩ (.int .i64 a.k)).setCell ⟨r, i * 3 + 1, none⟩ (.int .i64 a.n)).setCell ⟨r, i * 3 + 2, none⟩ (.complex .f64 a.x a.y)) mb f (some ⟨r, 0, none⟩) j c (l.set i a) := by
 have hr := (row_ge h.row rfl).1
 have hne : ¬ mb = r := by omega
 exact ⟨((h.kp.setCell (p := ⟨r, i * 3, none⟩) (fun h => by dsimp only at h; omega) _).setCell (p := ⟨r, i * 3 + 1, none⟩) (fun h => by dsimp only at h; omega) _).setCell (p := ⟨r, i * 3 + 2, none⟩) (fun h => by dsimp only at h; omega) _, ((h.cm.far (g := r) hne _).far (g := r) hne _).far (g := r) hne _, h.row.put i hi a⟩
theorem SLW.drew {w9 wr : World} {mb : Nat} {f : Int} {S : Option Addr} {j c : Nat} {l : List DV} (h : SLW w9 wr mb f S j c l) : SLW w9 wr.drew mb f S j c l :=
 ⟨h.kp.drew, h.cm.on ((Below.refl _ _).drew), RowF.kp h.row ((Kp.refl (fun _ => False) _).drew) fun _ _ h => h⟩
theorem FM.lift {X : Nat → Prop} {w w' : World} {g : Nat} {fno pc : Int} {s : ByteArray} {b : Bool} {A0 : Option Addr} {n0 c0 : Nat} {A1 : Option Addr} {n1 c1 : Nat} {A2 : Option Addr} {n2 c2 : Nat} {A3 : Option Addr} {n3 c3 : Nat} {A4 : Option Addr} {n4 c4 : Nat} {A5 : Option Addr} {n5 c5 : Nat} {A6 : Option Addr} {n6 c6 : Nat} {A7 : Option Addr} {n7 c7 : Nat} {A8 : Option Addr} {n8 c8 : Nat} {M K : Nat} {A13 : Option Addr} {m13 c13 : Nat} {A14 : Option Addr} {n14 c14 : Nat} {A15 : Option Addr} {n15 c15 : Nat} {B1 : Option Addr} {m1 k1 : Nat} {B2 : Option Addr} {m2 k2 : Nat} {B3 : Option Addr} {m3 k3 : Nat} {sl st : List DV} {cs ms : List CW} (h : FM X w g fno pc s b A0 n0 c0 A1 n1 c1 A2 n2 c2 A3 n3 c3 A4 n4 c4 A5 n5 c5 A6 n6 c6 A7 n7 c7 A8 n8 c8 M K A13 m13 c13 A14 n14 c14 A15 n15 c15 B1 m1 k1 B2 m2 k2 B3 m3 k3 sl st cs ms) (hk : Kp X w w') : FM X w' g fno pc s b A0 n0 c0 A1 n1 c1 A2 n2 c2 A3 n3 c3 A4 n4 c4 A5 n5 c5 A6 n6 c6 A7 n7 c7 A8 n8 c8 M K A13 m13 c13 A14 n14 c14 A15 n15 c15 B1 m1 k1 B2 m2 k2 B3 m3 k3 sl st cs ms :=
 ⟨h.fs.far hk, h.mo.kp hk fun _ _ hS => .inr hS, h.ab, h.hM, h.hst, h.hcs, h.q1, h.q2, h.q3, h.aw, h.cw, h.z1, h.z2⟩
theorem FM.slim {X Y : Nat → Prop} {w : World} {g : Nat} {fno pc : Int} {s : ByteArray} {b : Bool} {A0 : Option Addr} {n0 c0 : Nat} {A1 : Option Addr} {n1 c1 : Nat} {A2 : Option Addr} {n2 c2 : Nat} {A3 : Option Addr} {n3 c3 : Nat} {A4 : Option Addr} {n4 c4 : Nat} {A5 : Option Addr} {n5 c5 : Nat} {A6 : Option Addr} {n6 c6 : Nat} {A7 : Option Addr} {n7 c7 : Nat} {A8 : Option Addr} {n8 c8 : Nat} {M K : Nat} {A13 : Option Addr} {m13 c13 : Nat} {A14 : Option Addr} {n14 c14 : Nat} {A15 : Option Addr} {n15 c15 : Nat} {B1 : Option Addr} {m1 k1 : Nat} {B2 : Option Addr} {m2 k2 : Nat} {B3 : Option Addr} {m3 k3 : Nat} {sl st : List DV} {cs ms : List CW} (h : FM X w g fno pc s b A0 n0 c0 A1 n1 c1 A2 n2 c2 A3 n3 c3 A4 n4 c4 A5 n5 c5 A6 n6 c6 A7 n7 c7 A8 n8 c8 M K A13 m13 c13 A14 n14 c14 A15 n15 c15 B1 m1 k1 B2 m2 k2 B3 m3 k3 sl st cs ms) (hY : ∀ j, j < w.heap.size → Y j → X j) : FM Y w g fno pc s b A0 n0 c0 A1 n1 c1 A2 n2 c2 A3 n3 c3 A4 n4 c4 A5 n5 c5 A6 n6 c6 A7 n7 c7 A8 n8 c8 M K A13 m13 c13 A14 n14 c14 A15 n15 c15 B1 m1 k1 B2 m2 k2 B3 m3 k3 sl st cs ms :=
 ⟨h.fs.less hY, h.mo.mono fun j hj hO => hO.elim .inl fun e => .inr (hY j hj e), h.ab, h.hM, h.hst, h.hcs, h.q1, h.q2, h.q3, h.aw, h.cw, h.z1, h.z2⟩
theorem FM.broad {X : Nat → Prop} {w : World} {g : Nat} {fno pc : Int} {s : ByteArray} {b : Bool} {A0 : Option Addr} {n0 c0 : Nat} {A1 : Option Addr} {n1 c1 : Nat} {A2 : Option Addr} {n2 c2 : Nat} {A3 : Option Addr} {n3 c3 : Nat} {A4 : Option Addr} {n4 c4 : Nat} {A5 : Option Addr} {n5 c5 : Nat} {A6 : Option Addr} {n6 c6 : Nat} {A7 : Option Addr} {n7 c7 : Nat} {A8 : Option Addr} {n8 c8 : Nat} {M K : Nat} {A13 : Option Addr} {m13 c13 : Nat} {A14 : Option Addr} {n14 c14 : Nat} {A15 : Option Addr} {n15 c15 : Nat} {B1 : Option Addr} {m1 k1 : Nat} {B2 : Option Addr} {m2 k2 : Nat} {B3 : Option Addr} {m3 k3 : Nat} {sl st : List DV} {cs ms : List CW} (h : FM X w g fno pc s b A0 n0 c0 A1 n1 c1 A2 n2 c2 A3 n3 c3 A4 n4 c4 A5 n5 c5 A6 n6 c6 A7 n7 c7 A8 n8 c8 M K A13 m13 c13 A14 n14 c14 A15 n15 c15 B1 m1 k1 B2 m2 k2 B3 m3 k3 sl st cs ms) : FM (fun j => X j ∨ w.heap.size ≤ j) w g fno pc s b A0 n0 c0 A1 n1 c1 A2 n2 c2 A3 n3 c3 A4 n4 c4 A5 n5 c5 A6 n6 c6 A7 n7 c7 A8 n8 c8 M K A13 m13 c13 A14 n14 c14 A15 n15 c15 B1 m1 k1 B2 m2 k2 B3 m3 k3 sl st cs ms :=
 ⟨h.fs.wide, h.mo.wide, h.ab, h.hM, h.hst, h.hcs, h.q1, h.q2, h.q3, h.aw, h.cw, h.z1, h.z2⟩
def LoopW (w10 : World) (g mb : Nat) (f : Int) (s : ByteArray) (b : Bool) (A0 : Option Addr) (n0 c0 : Nat) (A1 : Option Addr) (n1 c1 : Nat) (A2 : Option Addr) (n2 c2 : Nat) (A3 : Option Addr) (n3 c3 : Nat) (A4 : Option Addr) (n4 c4 : Nat) (A5 : Option Addr) (n5 c5 : Nat) (A6 : Option Addr) (n6 c6 : Nat) (A7 : Option Addr) (n7 c7 : Nat) (A8 : Option Addr) (n8 c8 : Nat) (M i : Nat) (wr : World) : Prop := ∃ pc A13 m13 c13 A14 n14 c14 A15 n15 c15 B1 m1 k1 B2 m2 k2 B3 m3 k3 sl st cs ms, FM (fun j => j = mb) wr g f pc s b A0 n0 c0 A1 n1 c1 A2 n2 c2 A3 n3 c3 A4 n4 c4 A5 n5 c5 A6 n6 c6 A7 n7 c7 A8 n8 c8 M i A13 m13 c13 A14 n14 c14 A15 n15 c15 B1 m1 k1 B2 m2 k2 B3 m3 k3 sl st cs ms ∧ Cells wr mb [.int .i64 f, .int .i64 pc, .slice B1 m1 k1, .slice B2 m2 k2, .slice B3 m3 k3] ∧ Below g w10 wr
theorem loop_start {w7 w9 w10 : World} {g mb : Nat} {f : Int} {s : ByteArray} {b : Bool} {A0 : Option Addr} {n0 c0 : Nat} {A1 : Option Addr} {n1 c1 : Nat} {A2 : Option Addr} {n2 c2 : Nat} {A3 : Option Addr} {n3 c3 : Nat} {A4 : Option Addr} {n4 c4 : Nat} {A5 : Option Addr} {n5 c5 : Nat} {A6 : Option Addr} {n6 c6 : Nat} {A7 : Option Addr} {n7 c7 : Nat} {A8 : Option Addr} {n8 c8 : Nat} {A13 : Option Addr} {m13 c13 : Nat} {S : Option Addr} {sc : Nat} {ls : List DV} {M : Nat} (hF : FS (fun _ => False) w7 g f 0 s b A0 n0 c0 A1 n1 c1 A2 n2 c2 A3 n3 c3 A4 n4 c4 A5 n5 c5 A6 n6 c6 A7 n7 c7 A8 n8 c8 A13 m13 c13 none 0 0 none 0 0 ls [] []) (hmb : w7.heap.size = mb) (hb : Below w7.heap.size w7 w9) (hs : SLW w9 w10 mb f S M sc ls) (hM : m13 = M) (hm9 : mb < w9.heap.size) : LoopW w10 g mb f s b A0 n0 c0 A1 n1 c1 A2 n2 c2 A3 n3 c3 A4 n4 c4 A5 n5 c5 A6 n6 c6 A7 n7 c7 A8 n8 c8 M 0 w10 := by
 have hk : Kp (fun j => False ∨ w7.heap.size ≤ j) w7 w10 := ((Kp.refl _ w7).ofBelow hb).trans (hs.kp.mono fun j _ e => .inr (by omega))
 have h1 := (hF.wide.far hk).less (Y := fun j => j = mb) fun j _ e => .inr (by omega)
 have hb9 := hb.size
 have hO : ∀ j, Own g A13 none none j → j < mb := fun j h => by have := hF.old h; omega
 refine ⟨0, A13, m13, c13, none, 0, 0, none, 0, 0, S, M, sc, none, 0, 0, none, 0, 0, ls, [], [], [], ⟨h1, ⟨Rdv.ofRow hs.row fun j hj _ hO' => ?_, Rdv.nil _ _ _, Rdv.nil _ _ _, fun q hq => (by cases hq)⟩, rfl, hM, Nat.le_refl _, Nat.le_refl _, ⟨hs.row.2.1, hs.row.2.2.1⟩, ⟨Nat.le_refl _, by unfold maxLen; omega⟩, ⟨Nat.le_refl _, by unfold maxLen; omega⟩, fun q hq => (by cases hq), fun q hq => (by cases hq), fun hS => ?_, fun _ => rfl⟩, hs.cm, Below.refl _ _⟩
 ·rcases hO' with hO' | hO'
  ·have := hO j hO'
   omega
  ·have : j = mb := hO'
   omega
 ·subst hS
  rcases hs.row.form with ⟨_, _, h⟩ | ⟨r, h, _⟩
  ·exact h
  ·cases h
structure PreW (w10 : World) (g mb yb : Nat) (f pc : Int) (s : ByteArray) (b : Bool) (A0 : Option Addr) (n0 c0 : Nat) (A1 : Option Addr) (n1 c1 : Nat) (A2 : Option Addr) (n2 c2 : Nat) (A3 : Option Addr) (n3 c3 : Nat) (A4 : Option Addr) (n4 c4 : Nat) (A5 : Option Addr) (n5 c5 : Nat) (A6 : Option Addr) (n6 c6 : Nat) (A7 : Option Addr) (n7 c7 : Nat) (A8 : Option Addr) (n8 c8 : Nat) (M i : Nat) (A13 : Option Addr) (m13 c13 : Nat) (A14 : Option Addr) (n14 c14 : Nat) (A15 : Option Addr) (n15 c15 : Nat) (B1 : Option Addr) (m1 k1 : Nat) (B2 : Option Addr) (m2 k2 : Nat) (B3 : Option Addr) (m3 k3 : Nat) (sl st : List DV) (cs ms : List CW) (v : World) : Prop where
 fm : FM (fun j => j = mb ∨ j = yb) v g f pc s b A0 n0 c0 A1 n1 c1 A2 n2 c2 A3 n3 c3 A4 n4 c4 A5 n5 c5 A6 n6 c6 A7 n7 c7 A8 n8 c8 M i A13 m13 c13 A14 n14 c14 A15 n15 c15 B1 m1 k1 B2 m2 k2 B3 m3 k3 sl st cs ms
 cy : Cells v yb [.int .i64 0, .int .i64 0, .slice none 0 0, .slice none 0 0, .slice none 0 0]
 cm : ∃ o0 o1 o2 o3 o4, Cells v mb [o0, o1, o2, o3, o4]
 bg : Below g w10 v
 ne : ¬ yb = mb
 gy : g ≤ yb
def MidW (w10 : World) (g mb : Nat) (f : Int) (s : ByteArray) (b : Bool) (A0 : Option Addr) (n0 c0 : Nat) (A1 : Option Addr) (n1 c1 : Nat) (A2 : Option Addr) (n2 c2 : Nat) (A3 : Option Addr) (n3 c3 : Nat) (A4 : Option Addr) (n4 c4 : Nat) (A5 : Option Addr) (n5 c5 : Nat) (A6 : Option Addr) (n6 c6 : Nat) (A7 : Option Addr) (n7 c7 : Nat) (A8 : Option Addr) (n8 c8 : Nat) (M i yb : Nat) (u : World) : Prop := ∃ pc A13 m13 c13 A14 n14 c14 A15 n15 c15 B1 m1 k1 B2 m2 k2 B3 m3 k3 sl st cs ms, FM (fun j => j = mb) u g f pc s b A0 n0 c0 A1 n1 c1 A2 n2 c2 A3 n3 c3 A4 n4 c4 A5 n5 c5 A6 n6 c6 A7 n7 c7 A8 n8 c8 M i A13 m13 c13 A14 n14 c14 A15 n15 c15 B1 m1 k1 B2 m2 k2 B3 m3 k3 sl st cs ms ∧ Cells u yb [.int .i64 f, .int .i64 pc, .slice B1 m1 k1, .slice B2 m2 k2, .slice B3 m3 k3] ∧ (∃ o0 o1 o2 o3 o4, Cells u mb [o0, o1, o2, o3, o4]) ∧ Below g w10 u ∧ ¬ yb = mb
theorem mid_of {w10 v : World} {g mb yb : Nat} {f pc : Int} {s : ByteArray} {b : Bool} {A0 : Option Addr} {n0 c0 : Nat} {A1 : Option Addr} {n1 c1 : Nat} {A2 : Option Addr} {n2 c2 : Nat} {A3 : Option Addr} {n3 c3 : Nat} {A4 : Option Addr} {n4 c4 : Nat} {A5 : Option Addr} {n5 c5 : Nat} {A6 : Option Addr} {n6 c6 : Nat} {A7 : Option Addr} {n7 c7 : Nat} {A8 : Option Addr} {n8 c8 : Nat} {M i : Nat} {A13 : Option Addr} {m13 c13 : Nat} {A14 : Option Addr} {n14 c14 : Nat} {A15 : Option Addr} {n15 c15 : Nat} {B1 : Option Addr} {m1 k1 : Nat} {B2 : Option Addr} {m2 k2 : Nat} {B3 : Option Addr} {m3 k3 : Nat} {sl st : List DV} {cs ms : List CW} (h : PreW w10 g mb yb f pc s b A0 n0 c0 A1 n1 c1 A2 n2 c2 A3 n3 c3 A4 n4 c4 A5 n5 c5 A6 n6 c6 A7 n7 c7 A8 n8 c8 M i A13 m13 c13 A14 n14 c14 A15 n15 c15 B1 m1 k1 B2 m2 k2 B3 m3 k3 sl st cs ms v) : MidW w10 g mb f s b A0 n0 c0 A1 n1 c1 A2 n2 c2 A3 n3 c3 A4 n4 c4 A5 n5 c5 A6 n6 c6 A7 n7 c7 A8 n8 c8 M i yb (((((v.setCell ⟨yb, 0, none⟩ (.int .i64 f)).setCell ⟨yb, 1, none⟩ (.int .i64 pc)).setCell ⟨yb, 2, none⟩ (.slice B1 m1 k1)).setCell ⟨yb, 3, none⟩ (.slice B2 m2 k2)).setCell ⟨yb, 4, none⟩ (.slice B3 m3 k3)) := by
 obtain ⟨o0, o1, o2, o3, o4, hcm⟩ := h.cm
 have hk : Kp (fun j => j = mb ∨ j = yb) v (((((v.setCell ⟨yb, 0, none⟩ (.int .i64 f)).setCell ⟨yb, 1, none⟩ (.int .i64 pc)).setCell ⟨yb, 2, none⟩ (.slice B1 m1 k1)).setCell ⟨yb, 3, none⟩ (.slice B2 m2 k2)).setCell ⟨yb, 4, none⟩ (.slice B3 m3 k3)) :=
  ((((((Kp.refl _ v).setCell (p := ⟨yb, 0, none⟩) (fun _ => .inr rfl) _).setCell (p := ⟨yb, 1, none⟩) (fun _ => .inr rfl) _).setCell (p := ⟨yb, 2, none⟩) (fun _ => .inr rfl) _).setCell (p := ⟨yb, 3, none⟩) (fun _ => .inr rfl) _).setCell (p := ⟨yb, 4, none⟩) (fun _ => .inr rfl) _)
 have hne : ¬ mb = yb := fun e => h.ne e.symm
 have hcy := ((((h.cy.put 0 (by simp) (.int .i64 f)).put 1 (by simp) (.int .i64 pc)).put 2 (by simp) (.slice B1 m1 k1)).put 3 (by simp) (.slice B2 m2 k2)).put 4 (by simp) (.slice B3 m3 k3)
 have gy := h.gy
 have hbg := ((((h.bg.setCell (p := ⟨yb, 0, none⟩) gy (.int .i64 f)).setCell (p := ⟨yb, 1, none⟩) gy (.int .i64 pc)).setCell (p := ⟨yb, 2, none⟩) gy (.slice B1 m1 k1)).setCell (p := ⟨yb, 3, none⟩) gy (.slice B2 m2 k2)).setCell (p := ⟨yb, 4, none⟩) gy (.slice B3 m3 k3)
 exact ⟨pc, A13, m13, c13, A14, n14, c14, A15, n15, c15, B1, m1, k1, B2, m2, k2, B3, m3, k3, sl, st, cs, ms, (h.fm.lift hk).slim fun j _ e => .inl e, hcy, ⟨o0, o1, o2, o3, o4, ((((hcm.far hne _).far hne _).far hne _).far hne _).far hne _⟩, hbg, h.ne⟩
theorem pre_a {w10 wr W0 w11 v : World} {g mb yb : Nat} {f pc : Int} {s : ByteArray} {b : Bool} {A0 : Option Addr} {n0 c0 : Nat} {A1 : Option Addr} {n1 c1 : Nat} {A2 : Option Addr} {n2 c2 : Nat} {A3 : Option Addr} {n3 c3 : Nat} {A4 : Option Addr} {n4 c4 : Nat} {A5 : Option Addr} {n5 c5 : Nat} {A6 : Option Addr} {n6 c6 : Nat} {A7 : Option Addr} {n7 c7 : Nat} {A8 : Option Addr} {n8 c8 : Nat} {M i : Nat} {A13 : Option Addr} {m13 c13 : Nat} {A14 : Option Addr} {n14 c14 : Nat} {A15 : Option Addr} {n15 c15 : Nat} {B1 : Option Addr} {m1 k1 : Nat} {B2 : Option Addr} {m2 k2 : Nat} {B3 : Option Addr} {m3 k3 : Nat} {sl st : List DV} {cs ms : List CW} {O : Nat → Prop} {o0 o1 o2 o3 o4 : Value} {t : TypeId} (hcm : Cells wr mb [o0, o1, o2, o3, o4]) (hb : Below wr.heap.size wr W0) (hk : Kp O W0 w11) (hO : ∀ j, O j → ¬ j = mb ∧ g ≤ j) (hg : g ≤ wr.heap.size) (hbg : Below g w10 wr) (h : FM (fun j => j = mb) w11 g f pc s b A0 n0 c0 A1 n1 c1 A2 n2 c2 A3 n3 c3 A4 n4 c4 A5 n5 c5 A6 n6 c6 A7 n7 c7 A8 n8 c8 M i A13 m13 c13 A14 n14 c14 A15 n15 c15 B1 m1 k1 B2 m2 k2 B3 m3 k3 sl st cs ms) (hv : w11.alloc (.cells #[.int .i64 0, .int .i64 0, .slice none 0 0, .slice none 0 0, .slice none 0 0] t) = v) (hy : w11.heap.size = yb) : PreW w10 g mb yb f pc s b A0 n0 c0 A1 n1 c1 A2 n2 c2 A3 n3 c3 A4 n4 c4 A5 n5 c5 A6 n6 c6 A7 n7 c7 A8 n8 c8 M i A13 m13 c13 A14 n14 c14 A15 n15 c15 B1 m1 k1 B2 m2 k2 B3 m3 k3 sl st cs ms v := by
 have hbv : Below w11.heap.size w11 v := by rw [← hv]; exact bl_one _
 have hcq := ((hcm.on hb).kp hk fun e => (hO _ e).1 rfl)
 have h1 : FM (fun j => j = mb ∨ w11.heap.size ≤ j) v g f pc s b A0 n0 c0 A1 n1 c1 A2 n2 c2 A3 n3 c3 A4 n4 c4 A5 n5 c5 A6 n6 c6 A7 n7 c7 A8 n8 c8 M i A13 m13 c13 A14 n14 c14 A15 n15 c15 B1 m1 k1 B2 m2 k2 B3 m3 k3 sl st cs ms := h.broad.lift ((Kp.refl _ w11).ofBelow hbv)
 refine ⟨h1.slim fun j _ e => Or.imp id (fun e => by omega) e, by rw [← hv]; exact cells_new_at hy [.int .i64 0, .int .i64 0, .slice none 0 0, .slice none 0 0, .slice none 0 0] _, ⟨o0, o1, o2, o3, o4, hcq.on hbv⟩, ?_, fun e => by have := hcq.lt; omega, by have := hb.size; have := hk.size; omega⟩
 have b1 : Below g w10 W0 := hbg.trans (hb.mono hg)
 have b2 : Below g w10 w11 := b1.trans (hk.below (by have := hb.size; omega) fun j e => (hO j e).2)
 exact b2.trans (hbv.mono (by have := hb.size; have := hk.size; omega))
theorem pre_b {w10 wr W0 w11 : World} {g mb yb : Nat} {f pc : Int} {s : ByteArray} {b : Bool} {A0 : Option Addr} {n0 c0 : Nat} {A1 : Option Addr} {n1 c1 : Nat} {A2 : Option Addr} {n2 c2 : Nat} {A3 : Option Addr} {n3 c3 : Nat} {A4 : Option Addr} {n4 c4 : Nat} {A5 : Option Addr} {n5 c5 : Nat} {A6 : Option Addr} {n6 c6 : Nat} {A7 : Option Addr} {n7 c7 : Nat} {A8 : Option Addr} {n8 c8 : Nat} {M i : Nat} {A13 : Option Addr} {m13 c13 : Nat} {A14 : Option Addr} {n14 c14 : Nat} {A15 : Option Addr} {n15 c15 : Nat} {B1 : Option Addr} {m1 k1 : Nat} {B2 : Option Addr} {m2 k2 : Nat} {B3 : Option Addr} {m3 k3 : Nat} {sl st : List DV} {cs ms : List CW} {O : Nat → Prop} {o0 o1 o2 o3 o4 : Value} (hcm : Cells wr mb [o0, o1, o2, o3, o4]) (hb : Below wr.heap.size wr W0) (hcy : Cells W0 yb [.int .i64 0, .int .i64 0, .slice none 0 0, .slice none 0 0, .slice none 0 0]) (hy : wr.heap.size = yb) (hk : Kp O W0 w11) (hO : ∀ j, O j → ¬ j = mb ∧ g ≤ j ∧ j < wr.heap.size) (hg : g ≤ wr.heap.size) (hbg : Below g w10 wr) (h : FM (fun j => j = mb ∨ j = yb) w11 g f pc s b A0 n0 c0 A1 n1 c1 A2 n2 c2 A3 n3 c3 A4 n4 c4 A5 n5 c5 A6 n6 c6 A7 n7 c7 A8 n8 c8 M i A13 m13 c13 A14 n14 c14 A15 n15 c15 B1 m1 k1 B2 m2 k2 B3 m3 k3 sl st cs ms) : PreW w10 g mb yb f pc s b A0 n0 c0 A1 n1 c1 A2 n2 c2 A3 n3 c3 A4 n4 c4 A5 n5 c5 A6 n6 c6 A7 n7 c7 A8 n8 c8 M i A13 m13 c13 A14 n14 c14 A15 n15 c15 B1 m1 k1 B2 m2 k2 B3 m3 k3 sl st cs ms w11 := by
 have b1 : Below g w10 W0 := hbg.trans (hb.mono hg)
 exact ⟨h, hcy.kp hk fun e => by have := (hO _ e).2.2; omega, ⟨o0, o1, o2, o3, o4, (hcm.on hb).kp hk fun e => (hO _ e).1 rfl⟩, b1.trans (hk.below (by have := hb.size; omega) fun j e => (hO j e).2.1), fun e => by have := hcm.lt; omega, by omega⟩
theorem mid_next {w10 v : World} {g mb : Nat} {f pc : Int} {s : ByteArray} {b : Bool} {A0 : Option Addr} {n0 c0 : Nat} {A1 : Option Addr} {n1 c1 : Nat} {A2 : Option Addr} {n2 c2 : Nat} {A3 : Option Addr} {n3 c3 : Nat} {A4 : Option Addr} {n4 c4 : Nat} {A5 : Option Addr} {n5 c5 : Nat} {A6 : Option Addr} {n6 c6 : Nat} {A7 : Option Addr} {n7 c7 : Nat} {A8 : Option Addr} {n8 c8 : Nat} {M i : Nat} {A13 : Option Addr} {m13 c13 : Nat} {A14 : Option Addr} {n14 c14 : Nat} {A15 : Option Addr} {n15 c15 : Nat} {B1 : Option Addr} {m1 k1 : Nat} {B2 : Option Addr} {m2 k2 : Nat} {B3 : Option Addr} {m3 k3 : Nat} {sl st : List DV} {cs ms : List CW} {o0 o1 o2 o3 o4 : Value} (hfm : FM (fun j => j = mb) v g f pc s b A0 n0 c0 A1 n1 c1 A2 n2 c2 A3 n3 c3 A4 n4 c4 A5 n5 c5 A6 n6 c6 A7 n7 c7 A8 n8 c8 M i A13 m13 c13 A14 n14 c14 A15 n15 c15 B1 m1 k1 B2 m2 k2 B3 m3 k3 sl st cs ms) (hcm : Cells v mb [o0, o1, o2, o3, o4]) (hbg : Below g w10 v) (hg : g ≤ mb) {u : World} (hu : ((((v.setCell ⟨mb, 0, none⟩ (.int .i64 f)).setCell ⟨mb, 1, none⟩ (.int .i64 pc)).setCell ⟨mb, 2, none⟩ (.slice B1 m1 k1)).setCell ⟨mb, 3, none⟩ (.slice B2 m2 k2)).setCell ⟨mb, 4, none⟩ (.slice B3 m3 k3) = u) : FM (fun j => j = mb) u g f pc s b A0 n0 c0 A1 n1 c1 A2 n2 c2 A3 n3 c3 A4 n4 c4 A5 n5 c5 A6 n6 c6 A7 n7 c7 A8 n8 c8 M i A13 m13 c13 A14 n14 c14 A15 n15 c15 B1 m1 k1 B2 m2 k2 B3 m3 k3 sl st cs ms ∧ Cells u mb [.int .i64 f, .int .i64 pc, .slice B1 m1 k1, .slice B2 m2 k2, .slice B3 m3 k3] ∧ Below g w10 u := by
 subst hu
 exact ⟨hfm.lift ((((((Kp.refl (fun j => j = mb) v).setCell (p := ⟨mb, 0, none⟩) (fun _ => rfl) _).setCell (p := ⟨mb, 1, none⟩) (fun _ => rfl) _).setCell (p := ⟨mb, 2, none⟩) (fun _ => rfl) _).setCell (p := ⟨mb, 3, none⟩) (fun _ => rfl) _).setCell (p := ⟨mb, 4, none⟩) (fun _ => rfl) _),
  ((((hcm.put 0 (by simp) (.int .i64 f)).put 1 (by simp) (.int .i64 pc)).put 2 (by simp) (.slice B1 m1 k1)).put 3 (by simp) (.slice B2 m2 k2)).put 4 (by simp) (.slice B3 m3 k3),
  ((((hbg.setCell (p := ⟨mb, 0, none⟩) hg (.int .i64 f)).setCell (p := ⟨mb, 1, none⟩) hg (.int .i64 pc)).setCell (p := ⟨mb, 2, none⟩) hg (.slice B1 m1 k1)).setCell (p := ⟨mb, 3, none⟩) hg (.slice B2 m2 k2)).setCell (p := ⟨mb, 4, none⟩) hg (.slice B3 m3 k3)⟩
section
variable {P : Program} {ops : Array Oper} {Q : Exit → Act → World → Prop} {md : Region.Mode} {R : World → Prop} {pv : Nat}
theorem wpAnyG_fk {i : Nat} {oi : Oper} {v : Value} {fuel : Nat} {listed : Array Bool} {a : Act} {w : World} (hi : ops[i]? = some oi) (hip : i ≠ pv)
  (hs : Region.noSelect ops = true) (hf : Region.free md ops listed i = true) (hr : (Region.ready md ops listed).contains i = true)
  (hw : Region.wanted oi (yielded ops a.tmps) = true) (hv : ∀ w, (execOp a.eval oi).run P w = .ok (.value v) w)
  (hQ : ∀ c a w, Q (.panic c) (a.put oi.dst v) w → Q (.panic c) a w) (hS : listed.getD pv true = false → R w)
  (h : wpAnyG P md ops Q R pv fuel (listed.setIfInBounds i true) (a.put oi.dst v) w) : wpAnyG P md ops Q R pv (fuel + 1) listed a w :=
 wpAnyG_free hi hip hs hf hr hQ (Or.inl ⟨hw, fun w _ => hv w⟩) hS h
end
end Go.Proofs.YtobmjnmcjddhcaaGreat
