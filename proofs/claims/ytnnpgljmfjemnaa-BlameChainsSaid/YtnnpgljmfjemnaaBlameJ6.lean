/-
  Panics: the walk of BlameChains.
-/
import Derived.Test.YtnnpgljmfjemnaaBlameJ5
import Derived.Test.YtnnpgljmfjemnaaBlame8
namespace Go.Proofs.Ytnnpgljmfjemnaa
open Go.RowKit
set_option linter.unusedSimpArgs false
set_option linter.unusedVariables false

theorem slc_in {w W : World} {A : Option Addr} {n c : Nat} {xs : List DBlame} (h : SlC w w.heap.size A n c xs) (hW : Below w.heap.size w W) : SlC W W.heap.size A n c xs := slc_up (SlR.below stable_Blame h hW) hW.size
theorem slc_on {w W : World} {A : Option Addr} {n c : Nat} {xs : List DBlame} (h : SlC w w.heap.size A n c xs) (hW : Below w.heap.size w W) : SlC W W.heap.size A n c xs := slc_in h hW

set_option maxRecDepth 100000 in
set_option maxHeartbeats 20000000 in
theorem blameChains_few (A1 A2 : Option Addr) (n1 n2 c1 c2 : Nat) (xs ys : List DBlame) (w : World) (h1 : SlC w w.heap.size A1 n1 c1 xs) (h2 : SlC w w.heap.size A2 n2 c2 ys) (hn1 : n1 ≤ 40) (hn2 : n2 ≤ 40) :
    Calls Try.prog 5 #[.slice A1 n1 c1, .slice A2 n2 c2] w fun e w' => e = .returned (.bool true) ∧ Below w.heap.size w w' := by
  have hl : (xs ++ ys).length ≤ 100 := by rw [List.length_append, h1.1, h2.1]; omega
  have hx1 : xs.length = n1 := h1.1
  have d1 : Hid (Calls Try.prog 22 #[.slice A1 n1 c1] w (IsRec n1 xs w)) := recover_any A1 n1 c1 xs w h1 (by omega)
  have d2 : ∀ W, Below w.heap.size w W → Hid (Calls Try.prog 23 #[.slice A1 n1 c1] W (IsRec n1 xs W)) := fun W hW => refRecover_any A1 n1 c1 xs W (slc_in h1 hW) (by omega)
  have dc : ∀ (n : Nat) (zs : List DBlame) (W : World) (A3 A4 : Option Addr) (c3 c4 : Nat), n ≤ 100 → SlC W W.heap.size A3 n c3 zs → SlC W W.heap.size A4 n c4 zs → Hid (Calls Try.prog 18 #[.slice A3 n c3, .slice A4 n c4] W fun e w' => e = .returned (.bool true) ∧ Below W.heap.size W w') := fun n zs W A3 A4 c3 c4 hn a b => chains_any W.heap.size A3 A4 n c3 c4 zs W a b (Nat.le_refl _) hn
  have d4 : ∀ W, Below w.heap.size w W → Hid (Calls Try.prog 24 #[.slice A1 n1 c1, .slice A2 n2 c2] W (IsJoin (xs ++ ys) W)) := fun W hW => join_any A1 A2 n1 n2 c1 c2 xs ys W (slc_in h1 hW) (slc_in h2 hW) hn1 hn2
  have d5 : ∀ W, Below w.heap.size w W → Hid (Calls Try.prog 20 #[.slice A1 n1 c1, .slice A2 n2 c2] W (IsJoin (xs ++ ys) W)) := fun W hW => refJoin_any A1 A2 n1 n2 c1 c2 xs ys W (slc_in h1 hW) (slc_in h2 hW) hn1 hn2
  have d6 : ∀ W, Below w.heap.size w W → Hid (Calls Try.prog 25 #[.slice A1 n1 c1] W fun e w' => e = .returned (.bool (openM xs)) ∧ W = w') := fun W hW => open_any _ A1 n1 c1 xs W (slc_in h1 hW) (by omega)
  have d7 : ∀ W, Below w.heap.size w W → Hid (Calls Try.prog 16 #[.slice A1 n1 c1] W fun e w' => e = .returned (.bool (openM xs)) ∧ W = w') := fun W hW => refOpen_any _ A1 n1 c1 xs W (slc_in h1 hW) (by omega)
  have d8 : ∀ W, Below w.heap.size w W → Hid (Calls Try.prog 26 #[.slice A1 n1 c1] W fun e w' => ∃ A c, e = .returned (.slice A n1 c) ∧ SlC w' w'.heap.size A n1 c xs ∧ Below W.heap.size W w') := fun W hW => by
    refine (copy_any A1 n1 c1 xs W (slc_in h1 hW) (by omega)).mono ?_
    rintro e w' ⟨g, cells, rfl, hown, hf, hb⟩
    exact ⟨_, _, rfl, filled_sl hown hf hx1 (by unfold maxLen; omega) (by unfold reachBytes; omega), hb⟩
  have d9 : ∀ W, Hid (Calls Try.prog 21 #[] W fun e w' => e = .returned (.bool true) ∧ Below W.heap.size W w') := fun W => blame_lives W
  have q1 : ¬ ((40 : Int) < (n1 : Int)) := by omega
  have q2 : ¬ ((40 : Int) < (n2 : Int)) := by omega
  have HA := Lib.hid h1
  have HN : Hid (n1 ≤ 100) := by show n1 ≤ 100; omega
  have HL := Lib.hid hl
  obtain ⟨zs, hz⟩ : ∃ zs, xs ++ ys = zs := ⟨_, rfl⟩
  rw [hz] at d4 d5 HL
  unfold IsRec at d1 d2
  obtain ⟨ki, hki⟩ : ∃ z, kindM xs = z := ⟨_, rfl⟩
  obtain ⟨nu, hnu⟩ : ∃ z, numM xs = z := ⟨_, rfl⟩
  obtain ⟨op, hop⟩ : ∃ z, openM xs = z := ⟨_, rfl⟩
  rw [hki, hnu] at d1 d2
  rw [hop] at d6 d7
  have t1 : (ki == ki) = true := by simp
  have t2 : (nu == nu) = true := by simp
  have t3 : (op == op) = true := by simp
  clear h1 h2 hl hx1 hki hnu hop hn1 hn2 hz
  go_enter Try.func5, Try.ntmps5
  go_wp2_with fail
  refine Calls.mono d1.out ?_
  rintro e w1 ⟨A3, c3, rfl, s3, b1⟩
  go_wp2_with fail
  refine Calls.mono (d2 _ b1).out ?_
  rintro e w2 ⟨A4, c4, rfl, s4, b2⟩
  have B2 := bl_trans b1 b1.size b2
  have s3' := slc_in s3 b2
  clear d1 d2 s3
  go_wp2_with fail
  refine Calls.mono (dc _ _ _ _ _ _ _ HN.out s3' s4).out ?_
  rintro e w3 ⟨rfl, b3⟩
  have B3 := bl_trans B2 B2.size b3
  clear s3' s4 b1 b2 b3 B2
  go_wp2_with fail
  refine Calls.mono (d4 _ B3).out ?_
  rintro e w4 ⟨A5, c5, rfl, s5, b4⟩
  have B4 := bl_trans B3 B3.size b4
  clear d4
  go_wp2_with fail
  refine Calls.mono (d5 _ B4).out ?_
  rintro e w5 ⟨A6, c6, rfl, s6, b5⟩
  have B5 := bl_trans B4 B4.size b5
  have s5' := slc_in s5 b5
  clear d5 s5
  go_wp2_with fail
  refine Calls.mono (dc _ _ _ _ _ _ _ HL.out s5' s6).out ?_
  rintro e w6 ⟨rfl, b6⟩
  have B6 := bl_trans B5 B5.size b6
  clear s5' s6 b4 b5 b6 B3 B4 B5
  go_wp2_with fail
  refine Calls.mono (d6 _ B6).out ?_
  rintro e w7 ⟨rfl, rfl⟩
  go_wp2_with fail
  refine Calls.mono (d7 _ B6).out ?_
  rintro e w7 ⟨rfl, rfl⟩
  clear d6 d7
  go_wp2_with fail
  refine Calls.mono (d8 _ B6).out ?_
  rintro e w8 ⟨A7, c7, rfl, s7, b8⟩
  have B8 := bl_trans B6 B6.size b8
  clear d8
  go_wp2_with fail
  refine Calls.mono (dc _ _ _ _ _ _ _ HN.out s7 (slc_in HA.out B8)).out ?_
  rintro e w9 ⟨rfl, b9⟩
  have B9 := bl_trans B8 B8.size b9
  clear dc s7 b8 b9 B6 B8
  go_wp2_with fail
  refine Calls.mono (d9 _).out ?_
  rintro e w10 ⟨rfl, b10⟩
  go_wp2_with fail
  go_ret
  exact ⟨rfl, bl_trans B9 B9.size b10⟩

theorem blameChains_law (A1 : Option Addr) (n1 c1 : Nat) (xs : List DBlame) (A2 : Option Addr) (n2 c2 : Nat) (ys : List DBlame) (w : World) (h1 : SlR 4 48 RBlame w w.heap.size A1 n1 c1 xs) (h2 : SlR 4 48 RBlame w w.heap.size A2 n2 c2 ys) :
    Calls Try.prog 5 #[.slice A1 n1 c1, .slice A2 n2 c2] w fun e w' => e = .returned (.bool true) ∧ Below w.heap.size w w' := by
  have g1 : n1 ≤ 9223372036854775807 := by have := h1.2.1; have := h1.2.2.1; unfold maxLen at this; omega
  have g2 : n2 ≤ 9223372036854775807 := by have := h2.2.1; have := h2.2.2.1; unfold maxLen at this; omega
  by_cases hn1 : n1 ≤ 40
  · by_cases hn2 : n2 ≤ 40
    · exact blameChains_few A1 A2 n1 n2 c1 c2 xs ys w h1 h2 hn1 hn2
    · have q1 : ¬ ((40 : Int) < (n1 : Int)) := by omega
      have q2 : (40 : Int) < (n2 : Int) := by omega
      clear h1 h2 hn1 hn2
      go_enter Try.func5, Try.ntmps5
      go_wp2_with fail
      refine (blame_lives _).mono ?_
      rintro e w1 ⟨rfl, hb⟩
      go_wp2_with fail
      go_ret
      exact ⟨rfl, hb⟩
  · have q1 : (40 : Int) < (n1 : Int) := by omega
    clear h1 h2 hn1
    go_enter Try.func5, Try.ntmps5
    go_wp2_with fail
    refine (blame_lives _).mono ?_
    rintro e w1 ⟨rfl, hb⟩
    go_wp2_with fail
    go_ret
    exact ⟨rfl, hb⟩
end Go.Proofs.Ytnnpgljmfjemnaa
