import Derived.Test.YtobmjnmcjddhcaaGreatRg5
set_option linter.unusedSimpArgs false
set_option linter.unusedVariables false
set_option maxRecDepth 100000
set_option maxHeartbeats 16000000
namespace Go.Proofs.YtobmjnmcjddhcaaGreat
open Go.RowKit
def IsSame (xs ys : List Int) (w : World) (e : Ending) (w' : World) : Prop := ∃ r : Bool, e = .returned (.bool r) ∧ (r = true → xs = ys) ∧ Below w.heap.size w w'
theorem rsame_any (n c m d : Nat) (A B : Option Addr) (xs ys : List Int) (w : World) (h : SlI w w.heap.size A n c xs) (h' : SlI w w.heap.size B m d ys) (hn : n ≤ 100000) (hm : m ≤ 100000) :
  Calls Tryz.prog 125 #[.slice A n c, .slice B m d] w (IsSame xs ys w) := by
 have H := Hd h
 have H' := Hd h'
 have HL : Hid (xs.length = n ∧ ys.length = m) := Hd ⟨h.1, h'.1⟩
 have hn0 : (n : Int) ≤ 100000 := by omega
 have hm0 : (m : Int) ≤ 100000 := by omega
 clear h h'
 by_cases hnm : n = m
 ·subst hnm
  have t0 : ((n : Int) != (n : Int)) = false := by simp
  go_in
  go_wp2_with fail
  go_loopw [5] (fun i wr => ∃ k : Nat, i = .int .i64 k ∧ k ≤ n ∧ Hid (xs.take k = ys.take k ∧ Below w.heap.size w wr)) (fun i _ => n - (intOf i).toNat)
  case atStart => exact ⟨0, rfl, Nat.zero_le _, Hd ⟨rfl, Below.refl _ _⟩⟩
  case round =>
   obtain ⟨k, rfl, hk, HK⟩ := hrel
   have hb := Hd HK.out.2
   by_cases hlt : k < n
   ·obtain ⟨b, off, u, rfl, hbB, hu, q0⟩ := SlR.cell1 (f := Value.int .i64) H.out (i := k) hlt
    obtain ⟨b', off', v, rfl, hbB', hv, q0'⟩ := SlR.cell1 (f := Value.int .i64) H'.out (i := k) hlt
    have q1 := (hb.out.cell (p := ⟨b, off + k, none⟩) hbB).trans q0
    have q1' := (hb.out.cell (p := ⟨b', off' + k, none⟩) hbB').trans q0'
    have HU := Hd hu
    have HV := Hd hv
    have HT := Hd HK.out.1
    have hka : (k : Int) < (n : Int) := by omega
    have hk0 : (0 : Int) ≤ (k : Int) := by omega
    clear q0 q0' hbB hbB' hu hv HK
    by_cases huv : u = v
    ·subst huv
     have tv : (u != u) = false := by simp
     go_wp2_with fail
     go_quiet (fail)
     go_wp2_with fail
     go_roundw
     case rel => exact ⟨k + 1, by go_num, by omega, Hd ⟨by rw [← take_snoc' xs k u HU.out, ← take_snoc' ys k u HV.out, HT.out], below_drewN' hb.out _⟩⟩
     case measure => simp [intOf]; omega
    ·have tv : (u != v) = true := by simpa using huv
     clear huv
     go_wp2_with fail
     go_quiet (fail)
     go_wp2_with fail
     go_ret
     exact ⟨false, rfl, (fun h => by cases h), below_drewN' hb.out _⟩
   ·have hkn : k = n := by omega
    subst hkn
    go_wp2_with fail
    go_ret
    exact ⟨true, rfl, fun _ => by have := HK.out.1; rw [List.take_of_length_le (by have := HL.out.1; omega), List.take_of_length_le (by have := HL.out.2; omega)] at this; exact this, hb.out⟩
 ·have t0 : ((n : Int) != (m : Int)) = true := by rw [bne_iff_ne]; omega
  have t1 : (n != m) = true := by rw [bne_iff_ne]; exact hnm
  go_in
  go_wp2_with fail
  go_ret
  exact ⟨false, rfl, (fun h => by cases h), Below.refl _ _⟩
def IsTs (l : List Int) (w : World) (e : Ending) (w' : World) : Prop := ∃ A k c, e = .returned (.slice A k c) ∧ k = l.length ∧ SlI w' w'.heap.size A k c l ∧ Below w.heap.size w w'
theorem rof_any (n : Nat) (t : Int) (w : World) (hn : n ≤ 10) : Calls Tryz.prog 185 #[.int .i64 (n : Int), .int .i64 t] w (IsTs (List.replicate n t) w) := by
 obtain ⟨i0, hi, hz0, hz1, hz2⟩ := info_parts info_ty
 have hn0 : (n : Int) ≤ 10 := by omega
 go_in
 go_wp2_with fail
 go_loopw [5, 6] (fun ov iv wr => ∃ (k : Nat) (A : Option Addr) (c : Nat), ov = .slice A k c ∧ iv = .int .i64 (k : Int) ∧ k ≤ n ∧ Hid (wr.ownsRow w.heap.size 40 1 (.slice A k c) k ((List.replicate k t).flatMap fun x => [Value.int .i64 x]) ∧ Below w.heap.size w wr)) (fun _ iv _ => n - (intOf iv).toNat)
 case atStart => exact ⟨0, none, 0, rfl, rfl, Nat.zero_le _, Hd ⟨⟨rfl, .inl ⟨rfl, rfl⟩⟩, Below.refl _ _⟩⟩
 case round =>
  obtain ⟨k, A, c, rfl, rfl, hk, HK⟩ := hrel
  have hk0 : (0 : Int) ≤ (k : Int) := by omega
  by_cases hlt : k < n
  ·have hkn : (k : Int) < (n : Int) := by omega
   have hZ : Hid (w.heap.size ≤ wr.heap.size) := Hd HK.out.2.size
   have hsrc : Hid (SrcCells (wr.alloc (.cells #[.int .i64 t] 40)) (some ⟨wr.heap.size, 0, none⟩) 1 1 [.int .i64 t]) := Hd (own_src (World.ownsRow_lit (base := wr.heap.size) (e := 40) (size := 1) wr #[.int .i64 t] 1 (Nat.le_refl _) (by unfold maxLen; omega) rfl))
   go_wp2_with (first
     | (at_builtin; go_must (refine wpList_append_src _ rfl _ _ 32 rfl w.heap.size 40 i0 (.int .i64 0) 1 8 Tryz.underlying32 hi hz0 hz1 hz2 rfl (by decide) _ _ _ rfl (HK.out.1.alloc _) (some ⟨wr.heap.size, 0, none⟩) 1 1 [.int .i64 t] rfl hsrc.out (one_int _) (by unfold maxLen; omega) (by omega) (by have := hZ.out; simp; omega) ?_)
        intro v' w7 hown' hgrow3 hat3
        obtain ⟨A2, c2, rfl, _⟩ := own_form hown'
        have XR : Hid (w7.ownsRow w.heap.size 40 1 (.slice A2 (k + 1) c2) (k + 1) ((List.replicate (k + 1) t).flatMap fun x => [Value.int .i64 x])) := Hd (by rw [List.replicate_succ', List.flatMap_append]; simpa using hown')
        have XB : Hid (Below w.heap.size w w7) := Hd (Below.grown (HK.out.2.alloc hZ.out _) hgrow3 (by have := hZ.out; simp; omega) (fun j hj => (HK.out.1.lt _ hj).1))
        clear hown' hgrow3 hat3)
     | fail)
   go_roundw
   case rel => exact ⟨k + 1, A2, c2, rfl, by go_num, by omega, Hd ⟨XR.out, XB.out⟩⟩
   case measure => simp [intOf]; omega
  ·obtain rfl : k = n := by omega
   go_wp2_with fail
   go_ret
   exact ⟨A, k, c, rfl, by simp, SlR.of_ownN (sz := 1) (bytes := 8) (f := fun x => [Value.int .i64 x]) (fun _ => rfl) (by omega) HK.out.1 (by unfold reachBytes; omega), HK.out.2⟩
def effM (o : Int) : List Int × List Int :=
 if o = 1 ∨ o = 32 then ([], List.replicate 1 1) else
 if o = 6 ∨ o = 7 ∨ o = 8 ∨ o = 9 ∨ o = 10 ∨ o = 12 ∨ o = 13 then (List.replicate 2 1, List.replicate 1 1) else
 if o = 11 ∨ o = 14 then (List.replicate 1 1, List.replicate 1 1) else
 if o = 15 then (List.replicate 2 1, List.replicate 1 2) else
 if o = 16 ∨ o = 17 ∨ o = 18 then (List.replicate 2 2, List.replicate 1 2) else
 if o = 19 ∨ o = 20 then (List.replicate 1 2, List.replicate 1 1) else
 if o = 22 ∨ o = 26 ∨ o = 30 then (List.replicate 1 1, []) else
 if o = 27 then ([], List.replicate 2 1) else
 ([], [])
def IsTwo (l1 l2 : List Int) (w : World) (e : Ending) (w' : World) : Prop := ∃ A k c B m d, e = .returned (.tuple #[.slice A k c, .slice B m d]) ∧ k = l1.length ∧ m = l2.length ∧ SlI w' w'.heap.size A k c l1 ∧ SlI w' w'.heap.size B m d l2 ∧ Below w.heap.size w w'
theorem sli_nil (W : World) : SlI W W.heap.size none 0 0 [] := SlR.nil_ W _
theorem reffect_any (o : Int) (w : World) : Calls Tryz.prog 173 #[.int .i64 o] w (IsTwo (effM o).1 (effM o).2 w) := by
 by_cases h1 : o = 1
 ·have cO0 : Hid (∀ W, Calls Tryz.prog 185 #[.int .i64 1, .int .i64 1] W (IsTs (List.replicate 1 1) W)) := Hd fun W => rof_any 1 1 W (by omega)
  subst h1
  go_in
  go_wp2_with fail
  refine (cO0.out _).mono ?_
  rintro e u0 ⟨P0, k0, d0, rfl, hk0, hs0, hb0⟩
  have HS0 := Hd hs0
  have HB0 := Hd hb0
  simp only [List.length_replicate] at hk0
  subst hk0
  clear hs0 hb0
  go_wp2_with fail
  go_ret2
  exact ⟨none, 0, 0, P0, _, d0, rfl, by simp [effM], by simp [effM], by simpa [effM] using sli_nil _, by simpa [effM] using HS0.out, HB0.out⟩
 have e1 : (o == 1) = false := by simpa using h1
 by_cases h32 : o = 32
 ·have cO0 : Hid (∀ W, Calls Tryz.prog 185 #[.int .i64 1, .int .i64 1] W (IsTs (List.replicate 1 1) W)) := Hd fun W => rof_any 1 1 W (by omega)
  subst h32
  go_in
  go_wp2_with fail
  refine (cO0.out _).mono ?_
  rintro e u0 ⟨P0, k0, d0, rfl, hk0, hs0, hb0⟩
  have HS0 := Hd hs0
  have HB0 := Hd hb0
  simp only [List.length_replicate] at hk0
  subst hk0
  clear hs0 hb0
  go_wp2_with fail
  go_ret2
  exact ⟨none, 0, 0, P0, _, d0, rfl, by simp [effM], by simp [effM], by simpa [effM] using sli_nil _, by simpa [effM] using HS0.out, HB0.out⟩
 have e32 : (o == 32) = false := by simpa using h32
 by_cases h6 : o = 6
 ·have cO0 : Hid (∀ W, Calls Tryz.prog 185 #[.int .i64 2, .int .i64 1] W (IsTs (List.replicate 2 1) W)) := Hd fun W => rof_any 2 1 W (by omega)
  have cO1 : Hid (∀ W, Calls Tryz.prog 185 #[.int .i64 1, .int .i64 1] W (IsTs (List.replicate 1 1) W)) := Hd fun W => rof_any 1 1 W (by omega)
  subst h6
  go_in
  go_wp2_with fail
  refine (cO0.out _).mono ?_
  rintro e u0 ⟨P0, k0, d0, rfl, hk0, hs0, hb0⟩
  have HS0 := Hd hs0
  have HB0 := Hd hb0
  simp only [List.length_replicate] at hk0
  subst hk0
  clear hs0 hb0
  go_wp2_with fail
  refine (cO1.out _).mono ?_
  rintro e u1 ⟨P1, k1, d1, rfl, hk1, hs1, hb1⟩
  have HS1 := Hd hs1
  have HB1 := Hd hb1
  simp only [List.length_replicate] at hk1
  subst hk1
  clear hs1 hb1
  go_wp2_with fail
  go_ret2
  exact ⟨P0, _, d0, P1, _, d1, rfl, by simp [effM], by simp [effM], by simpa [effM] using SlI.on HS0.out HB1.out, by simpa [effM] using HS1.out, HB0.out.trans (HB1.out.mono HB0.out.size)⟩
 have e6 : (o == 6) = false := by simpa using h6
 by_cases h7 : o = 7
 ·have cO0 : Hid (∀ W, Calls Tryz.prog 185 #[.int .i64 2, .int .i64 1] W (IsTs (List.replicate 2 1) W)) := Hd fun W => rof_any 2 1 W (by omega)
  have cO1 : Hid (∀ W, Calls Tryz.prog 185 #[.int .i64 1, .int .i64 1] W (IsTs (List.replicate 1 1) W)) := Hd fun W => rof_any 1 1 W (by omega)
  subst h7
  go_in
  go_wp2_with fail
  refine (cO0.out _).mono ?_
  rintro e u0 ⟨P0, k0, d0, rfl, hk0, hs0, hb0⟩
  have HS0 := Hd hs0
  have HB0 := Hd hb0
  simp only [List.length_replicate] at hk0
  subst hk0
  clear hs0 hb0
  go_wp2_with fail
  refine (cO1.out _).mono ?_
  rintro e u1 ⟨P1, k1, d1, rfl, hk1, hs1, hb1⟩
  have HS1 := Hd hs1
  have HB1 := Hd hb1
  simp only [List.length_replicate] at hk1
  subst hk1
  clear hs1 hb1
  go_wp2_with fail
  go_ret2
  exact ⟨P0, _, d0, P1, _, d1, rfl, by simp [effM], by simp [effM], by simpa [effM] using SlI.on HS0.out HB1.out, by simpa [effM] using HS1.out, HB0.out.trans (HB1.out.mono HB0.out.size)⟩
 have e7 : (o == 7) = false := by simpa using h7
 by_cases h8 : o = 8
 ·have cO0 : Hid (∀ W, Calls Tryz.prog 185 #[.int .i64 2, .int .i64 1] W (IsTs (List.replicate 2 1) W)) := Hd fun W => rof_any 2 1 W (by omega)
  have cO1 : Hid (∀ W, Calls Tryz.prog 185 #[.int .i64 1, .int .i64 1] W (IsTs (List.replicate 1 1) W)) := Hd fun W => rof_any 1 1 W (by omega)
  subst h8
  go_in
  go_wp2_with fail
  refine (cO0.out _).mono ?_
  rintro e u0 ⟨P0, k0, d0, rfl, hk0, hs0, hb0⟩
  have HS0 := Hd hs0
  have HB0 := Hd hb0
  simp only [List.length_replicate] at hk0
  subst hk0
  clear hs0 hb0
  go_wp2_with fail
  refine (cO1.out _).mono ?_
  rintro e u1 ⟨P1, k1, d1, rfl, hk1, hs1, hb1⟩
  have HS1 := Hd hs1
  have HB1 := Hd hb1
  simp only [List.length_replicate] at hk1
  subst hk1
  clear hs1 hb1
  go_wp2_with fail
  go_ret2
  exact ⟨P0, _, d0, P1, _, d1, rfl, by simp [effM], by simp [effM], by simpa [effM] using SlI.on HS0.out HB1.out, by simpa [effM] using HS1.out, HB0.out.trans (HB1.out.mono HB0.out.size)⟩
 have e8 : (o == 8) = false := by simpa using h8
 by_cases h9 : o = 9
 ·have cO0 : Hid (∀ W, Calls Tryz.prog 185 #[.int .i64 2, .int .i64 1] W (IsTs (List.replicate 2 1) W)) := Hd fun W => rof_any 2 1 W (by omega)
  have cO1 : Hid (∀ W, Calls Tryz.prog 185 #[.int .i64 1, .int .i64 1] W (IsTs (List.replicate 1 1) W)) := Hd fun W => rof_any 1 1 W (by omega)
  subst h9
  go_in
  go_wp2_with fail
  refine (cO0.out _).mono ?_
  rintro e u0 ⟨P0, k0, d0, rfl, hk0, hs0, hb0⟩
  have HS0 := Hd hs0
  have HB0 := Hd hb0
  simp only [List.length_replicate] at hk0
  subst hk0
  clear hs0 hb0
  go_wp2_with fail
  refine (cO1.out _).mono ?_
  rintro e u1 ⟨P1, k1, d1, rfl, hk1, hs1, hb1⟩
  have HS1 := Hd hs1
  have HB1 := Hd hb1
  simp only [List.length_replicate] at hk1
  subst hk1
  clear hs1 hb1
  go_wp2_with fail
  go_ret2
  exact ⟨P0, _, d0, P1, _, d1, rfl, by simp [effM], by simp [effM], by simpa [effM] using SlI.on HS0.out HB1.out, by simpa [effM] using HS1.out, HB0.out.trans (HB1.out.mono HB0.out.size)⟩
 have e9 : (o == 9) = false := by simpa using h9
 by_cases h10 : o = 10
 ·have cO0 : Hid (∀ W, Calls Tryz.prog 185 #[.int .i64 2, .int .i64 1] W (IsTs (List.replicate 2 1) W)) := Hd fun W => rof_any 2 1 W (by omega)
  have cO1 : Hid (∀ W, Calls Tryz.prog 185 #[.int .i64 1, .int .i64 1] W (IsTs (List.replicate 1 1) W)) := Hd fun W => rof_any 1 1 W (by omega)
  subst h10
  go_in
  go_wp2_with fail
  refine (cO0.out _).mono ?_
  rintro e u0 ⟨P0, k0, d0, rfl, hk0, hs0, hb0⟩
  have HS0 := Hd hs0
  have HB0 := Hd hb0
  simp only [List.length_replicate] at hk0
  subst hk0
  clear hs0 hb0
  go_wp2_with fail
  refine (cO1.out _).mono ?_
  rintro e u1 ⟨P1, k1, d1, rfl, hk1, hs1, hb1⟩
  have HS1 := Hd hs1
  have HB1 := Hd hb1
  simp only [List.length_replicate] at hk1
  subst hk1
  clear hs1 hb1
  go_wp2_with fail
  go_ret2
  exact ⟨P0, _, d0, P1, _, d1, rfl, by simp [effM], by simp [effM], by simpa [effM] using SlI.on HS0.out HB1.out, by simpa [effM] using HS1.out, HB0.out.trans (HB1.out.mono HB0.out.size)⟩
 have e10 : (o == 10) = false := by simpa using h10
 by_cases h12 : o = 12
 ·have cO0 : Hid (∀ W, Calls Tryz.prog 185 #[.int .i64 2, .int .i64 1] W (IsTs (List.replicate 2 1) W)) := Hd fun W => rof_any 2 1 W (by omega)
  have cO1 : Hid (∀ W, Calls Tryz.prog 185 #[.int .i64 1, .int .i64 1] W (IsTs (List.replicate 1 1) W)) := Hd fun W => rof_any 1 1 W (by omega)
  subst h12
  go_in
  go_wp2_with fail
  refine (cO0.out _).mono ?_
  rintro e u0 ⟨P0, k0, d0, rfl, hk0, hs0, hb0⟩
  have HS0 := Hd hs0
  have HB0 := Hd hb0
  simp only [List.length_replicate] at hk0
  subst hk0
  clear hs0 hb0
  go_wp2_with fail
  refine (cO1.out _).mono ?_
  rintro e u1 ⟨P1, k1, d1, rfl, hk1, hs1, hb1⟩
  have HS1 := Hd hs1
  have HB1 := Hd hb1
  simp only [List.length_replicate] at hk1
  subst hk1
  clear hs1 hb1
  go_wp2_with fail
  go_ret2
  exact ⟨P0, _, d0, P1, _, d1, rfl, by simp [effM], by simp [effM], by simpa [effM] using SlI.on HS0.out HB1.out, by simpa [effM] using HS1.out, HB0.out.trans (HB1.out.mono HB0.out.size)⟩
 have e12 : (o == 12) = false := by simpa using h12
 by_cases h13 : o = 13
 ·have cO0 : Hid (∀ W, Calls Tryz.prog 185 #[.int .i64 2, .int .i64 1] W (IsTs (List.replicate 2 1) W)) := Hd fun W => rof_any 2 1 W (by omega)
  have cO1 : Hid (∀ W, Calls Tryz.prog 185 #[.int .i64 1, .int .i64 1] W (IsTs (List.replicate 1 1) W)) := Hd fun W => rof_any 1 1 W (by omega)
  subst h13
  go_in
  go_wp2_with fail
  refine (cO0.out _).mono ?_
  rintro e u0 ⟨P0, k0, d0, rfl, hk0, hs0, hb0⟩
  have HS0 := Hd hs0
  have HB0 := Hd hb0
  simp only [List.length_replicate] at hk0
  subst hk0
  clear hs0 hb0
  go_wp2_with fail
  refine (cO1.out _).mono ?_
  rintro e u1 ⟨P1, k1, d1, rfl, hk1, hs1, hb1⟩
  have HS1 := Hd hs1
  have HB1 := Hd hb1
  simp only [List.length_replicate] at hk1
  subst hk1
  clear hs1 hb1
  go_wp2_with fail
  go_ret2
  exact ⟨P0, _, d0, P1, _, d1, rfl, by simp [effM], by simp [effM], by simpa [effM] using SlI.on HS0.out HB1.out, by simpa [effM] using HS1.out, HB0.out.trans (HB1.out.mono HB0.out.size)⟩
 have e13 : (o == 13) = false := by simpa using h13
 by_cases h11 : o = 11
 ·have cO0 : Hid (∀ W, Calls Tryz.prog 185 #[.int .i64 1, .int .i64 1] W (IsTs (List.replicate 1 1) W)) := Hd fun W => rof_any 1 1 W (by omega)
  have cO1 : Hid (∀ W, Calls Tryz.prog 185 #[.int .i64 1, .int .i64 1] W (IsTs (List.replicate 1 1) W)) := Hd fun W => rof_any 1 1 W (by omega)
  subst h11
  go_in
  go_wp2_with fail
  refine (cO0.out _).mono ?_
  rintro e u0 ⟨P0, k0, d0, rfl, hk0, hs0, hb0⟩
  have HS0 := Hd hs0
  have HB0 := Hd hb0
  simp only [List.length_replicate] at hk0
  subst hk0
  clear hs0 hb0
  go_wp2_with fail
  refine (cO1.out _).mono ?_
  rintro e u1 ⟨P1, k1, d1, rfl, hk1, hs1, hb1⟩
  have HS1 := Hd hs1
  have HB1 := Hd hb1
  simp only [List.length_replicate] at hk1
  subst hk1
  clear hs1 hb1
  go_wp2_with fail
  go_ret2
  exact ⟨P0, _, d0, P1, _, d1, rfl, by simp [effM], by simp [effM], by simpa [effM] using SlI.on HS0.out HB1.out, by simpa [effM] using HS1.out, HB0.out.trans (HB1.out.mono HB0.out.size)⟩
 have e11 : (o == 11) = false := by simpa using h11
 by_cases h14 : o = 14
 ·have cO0 : Hid (∀ W, Calls Tryz.prog 185 #[.int .i64 1, .int .i64 1] W (IsTs (List.replicate 1 1) W)) := Hd fun W => rof_any 1 1 W (by omega)
  have cO1 : Hid (∀ W, Calls Tryz.prog 185 #[.int .i64 1, .int .i64 1] W (IsTs (List.replicate 1 1) W)) := Hd fun W => rof_any 1 1 W (by omega)
  subst h14
  go_in
  go_wp2_with fail
  refine (cO0.out _).mono ?_
  rintro e u0 ⟨P0, k0, d0, rfl, hk0, hs0, hb0⟩
  have HS0 := Hd hs0
  have HB0 := Hd hb0
  simp only [List.length_replicate] at hk0
  subst hk0
  clear hs0 hb0
  go_wp2_with fail
  refine (cO1.out _).mono ?_
  rintro e u1 ⟨P1, k1, d1, rfl, hk1, hs1, hb1⟩
  have HS1 := Hd hs1
  have HB1 := Hd hb1
  simp only [List.length_replicate] at hk1
  subst hk1
  clear hs1 hb1
  go_wp2_with fail
  go_ret2
  exact ⟨P0, _, d0, P1, _, d1, rfl, by simp [effM], by simp [effM], by simpa [effM] using SlI.on HS0.out HB1.out, by simpa [effM] using HS1.out, HB0.out.trans (HB1.out.mono HB0.out.size)⟩
 have e14 : (o == 14) = false := by simpa using h14
 by_cases h15 : o = 15
 ·have cO0 : Hid (∀ W, Calls Tryz.prog 185 #[.int .i64 2, .int .i64 1] W (IsTs (List.replicate 2 1) W)) := Hd fun W => rof_any 2 1 W (by omega)
  have cO1 : Hid (∀ W, Calls Tryz.prog 185 #[.int .i64 1, .int .i64 2] W (IsTs (List.replicate 1 2) W)) := Hd fun W => rof_any 1 2 W (by omega)
  subst h15
  go_in
  go_wp2_with fail
  refine (cO0.out _).mono ?_
  rintro e u0 ⟨P0, k0, d0, rfl, hk0, hs0, hb0⟩
  have HS0 := Hd hs0
  have HB0 := Hd hb0
  simp only [List.length_replicate] at hk0
  subst hk0
  clear hs0 hb0
  go_wp2_with fail
  refine (cO1.out _).mono ?_
  rintro e u1 ⟨P1, k1, d1, rfl, hk1, hs1, hb1⟩
  have HS1 := Hd hs1
  have HB1 := Hd hb1
  simp only [List.length_replicate] at hk1
  subst hk1
  clear hs1 hb1
  go_wp2_with fail
  go_ret2
  exact ⟨P0, _, d0, P1, _, d1, rfl, by simp [effM], by simp [effM], by simpa [effM] using SlI.on HS0.out HB1.out, by simpa [effM] using HS1.out, HB0.out.trans (HB1.out.mono HB0.out.size)⟩
 have e15 : (o == 15) = false := by simpa using h15
 by_cases h16 : o = 16
 ·have cO0 : Hid (∀ W, Calls Tryz.prog 185 #[.int .i64 2, .int .i64 2] W (IsTs (List.replicate 2 2) W)) := Hd fun W => rof_any 2 2 W (by omega)
  have cO1 : Hid (∀ W, Calls Tryz.prog 185 #[.int .i64 1, .int .i64 2] W (IsTs (List.replicate 1 2) W)) := Hd fun W => rof_any 1 2 W (by omega)
  subst h16
  go_in
  go_wp2_with fail
  refine (cO0.out _).mono ?_
  rintro e u0 ⟨P0, k0, d0, rfl, hk0, hs0, hb0⟩
  have HS0 := Hd hs0
  have HB0 := Hd hb0
  simp only [List.length_replicate] at hk0
  subst hk0
  clear hs0 hb0
  go_wp2_with fail
  refine (cO1.out _).mono ?_
  rintro e u1 ⟨P1, k1, d1, rfl, hk1, hs1, hb1⟩
  have HS1 := Hd hs1
  have HB1 := Hd hb1
  simp only [List.length_replicate] at hk1
  subst hk1
  clear hs1 hb1
  go_wp2_with fail
  go_ret2
  exact ⟨P0, _, d0, P1, _, d1, rfl, by simp [effM], by simp [effM], by simpa [effM] using SlI.on HS0.out HB1.out, by simpa [effM] using HS1.out, HB0.out.trans (HB1.out.mono HB0.out.size)⟩
 have e16 : (o == 16) = false := by simpa using h16
 by_cases h17 : o = 17
 ·have cO0 : Hid (∀ W, Calls Tryz.prog 185 #[.int .i64 2, .int .i64 2] W (IsTs (List.replicate 2 2) W)) := Hd fun W => rof_any 2 2 W (by omega)
  have cO1 : Hid (∀ W, Calls Tryz.prog 185 #[.int .i64 1, .int .i64 2] W (IsTs (List.replicate 1 2) W)) := Hd fun W => rof_any 1 2 W (by omega)
  subst h17
  go_in
  go_wp2_with fail
  refine (cO0.out _).mono ?_
  rintro e u0 ⟨P0, k0, d0, rfl, hk0, hs0, hb0⟩
  have HS0 := Hd hs0
  have HB0 := Hd hb0
  simp only [List.length_replicate] at hk0
  subst hk0
  clear hs0 hb0
  go_wp2_with fail
  refine (cO1.out _).mono ?_
  rintro e u1 ⟨P1, k1, d1, rfl, hk1, hs1, hb1⟩
  have HS1 := Hd hs1
  have HB1 := Hd hb1
  simp only [List.length_replicate] at hk1
  subst hk1
  clear hs1 hb1
  go_wp2_with fail
  go_ret2
  exact ⟨P0, _, d0, P1, _, d1, rfl, by simp [effM], by simp [effM], by simpa [effM] using SlI.on HS0.out HB1.out, by simpa [effM] using HS1.out, HB0.out.trans (HB1.out.mono HB0.out.size)⟩
 have e17 : (o == 17) = false := by simpa using h17
 by_cases h18 : o = 18
 ·have cO0 : Hid (∀ W, Calls Tryz.prog 185 #[.int .i64 2, .int .i64 2] W (IsTs (List.replicate 2 2) W)) := Hd fun W => rof_any 2 2 W (by omega)
  have cO1 : Hid (∀ W, Calls Tryz.prog 185 #[.int .i64 1, .int .i64 2] W (IsTs (List.replicate 1 2) W)) := Hd fun W => rof_any 1 2 W (by omega)
  subst h18
  go_in
  go_wp2_with fail
  refine (cO0.out _).mono ?_
  rintro e u0 ⟨P0, k0, d0, rfl, hk0, hs0, hb0⟩
  have HS0 := Hd hs0
  have HB0 := Hd hb0
  simp only [List.length_replicate] at hk0
  subst hk0
  clear hs0 hb0
  go_wp2_with fail
  refine (cO1.out _).mono ?_
  rintro e u1 ⟨P1, k1, d1, rfl, hk1, hs1, hb1⟩
  have HS1 := Hd hs1
  have HB1 := Hd hb1
  simp only [List.length_replicate] at hk1
  subst hk1
  clear hs1 hb1
  go_wp2_with fail
  go_ret2
  exact ⟨P0, _, d0, P1, _, d1, rfl, by simp [effM], by simp [effM], by simpa [effM] using SlI.on HS0.out HB1.out, by simpa [effM] using HS1.out, HB0.out.trans (HB1.out.mono HB0.out.size)⟩
 have e18 : (o == 18) = false := by simpa using h18
 by_cases h19 : o = 19
 ·have cO0 : Hid (∀ W, Calls Tryz.prog 185 #[.int .i64 1, .int .i64 2] W (IsTs (List.replicate 1 2) W)) := Hd fun W => rof_any 1 2 W (by omega)
  have cO1 : Hid (∀ W, Calls Tryz.prog 185 #[.int .i64 1, .int .i64 1] W (IsTs (List.replicate 1 1) W)) := Hd fun W => rof_any 1 1 W (by omega)
  subst h19
  go_in
  go_wp2_with fail
  refine (cO0.out _).mono ?_
  rintro e u0 ⟨P0, k0, d0, rfl, hk0, hs0, hb0⟩
  have HS0 := Hd hs0
  have HB0 := Hd hb0
  simp only [List.length_replicate] at hk0
  subst hk0
  clear hs0 hb0
  go_wp2_with fail
  refine (cO1.out _).mono ?_
  rintro e u1 ⟨P1, k1, d1, rfl, hk1, hs1, hb1⟩
  have HS1 := Hd hs1
  have HB1 := Hd hb1
  simp only [List.length_replicate] at hk1
  subst hk1
  clear hs1 hb1
  go_wp2_with fail
  go_ret2
  exact ⟨P0, _, d0, P1, _, d1, rfl, by simp [effM], by simp [effM], by simpa [effM] using SlI.on HS0.out HB1.out, by simpa [effM] using HS1.out, HB0.out.trans (HB1.out.mono HB0.out.size)⟩
 have e19 : (o == 19) = false := by simpa using h19
 by_cases h20 : o = 20
 ·have cO0 : Hid (∀ W, Calls Tryz.prog 185 #[.int .i64 1, .int .i64 2] W (IsTs (List.replicate 1 2) W)) := Hd fun W => rof_any 1 2 W (by omega)
  have cO1 : Hid (∀ W, Calls Tryz.prog 185 #[.int .i64 1, .int .i64 1] W (IsTs (List.replicate 1 1) W)) := Hd fun W => rof_any 1 1 W (by omega)
  subst h20
  go_in
  go_wp2_with fail
  refine (cO0.out _).mono ?_
  rintro e u0 ⟨P0, k0, d0, rfl, hk0, hs0, hb0⟩
  have HS0 := Hd hs0
  have HB0 := Hd hb0
  simp only [List.length_replicate] at hk0
  subst hk0
  clear hs0 hb0
  go_wp2_with fail
  refine (cO1.out _).mono ?_
  rintro e u1 ⟨P1, k1, d1, rfl, hk1, hs1, hb1⟩
  have HS1 := Hd hs1
  have HB1 := Hd hb1
  simp only [List.length_replicate] at hk1
  subst hk1
  clear hs1 hb1
  go_wp2_with fail
  go_ret2
  exact ⟨P0, _, d0, P1, _, d1, rfl, by simp [effM], by simp [effM], by simpa [effM] using SlI.on HS0.out HB1.out, by simpa [effM] using HS1.out, HB0.out.trans (HB1.out.mono HB0.out.size)⟩
 have e20 : (o == 20) = false := by simpa using h20
 by_cases h22 : o = 22
 ·have cO0 : Hid (∀ W, Calls Tryz.prog 185 #[.int .i64 1, .int .i64 1] W (IsTs (List.replicate 1 1) W)) := Hd fun W => rof_any 1 1 W (by omega)
  subst h22
  go_in
  go_wp2_with fail
  refine (cO0.out _).mono ?_
  rintro e u0 ⟨P0, k0, d0, rfl, hk0, hs0, hb0⟩
  have HS0 := Hd hs0
  have HB0 := Hd hb0
  simp only [List.length_replicate] at hk0
  subst hk0
  clear hs0 hb0
  go_wp2_with fail
  go_ret2
  exact ⟨P0, _, d0, none, 0, 0, rfl, by simp [effM], by simp [effM], by simpa [effM] using HS0.out, by simpa [effM] using sli_nil _, HB0.out⟩
 have e22 : (o == 22) = false := by simpa using h22
 by_cases h26 : o = 26
 ·have cO0 : Hid (∀ W, Calls Tryz.prog 185 #[.int .i64 1, .int .i64 1] W (IsTs (List.replicate 1 1) W)) := Hd fun W => rof_any 1 1 W (by omega)
  subst h26
  go_in
  go_wp2_with fail
  refine (cO0.out _).mono ?_
  rintro e u0 ⟨P0, k0, d0, rfl, hk0, hs0, hb0⟩
  have HS0 := Hd hs0
  have HB0 := Hd hb0
  simp only [List.length_replicate] at hk0
  subst hk0
  clear hs0 hb0
  go_wp2_with fail
  go_ret2
  exact ⟨P0, _, d0, none, 0, 0, rfl, by simp [effM], by simp [effM], by simpa [effM] using HS0.out, by simpa [effM] using sli_nil _, HB0.out⟩
 have e26 : (o == 26) = false := by simpa using h26
 by_cases h30 : o = 30
 ·have cO0 : Hid (∀ W, Calls Tryz.prog 185 #[.int .i64 1, .int .i64 1] W (IsTs (List.replicate 1 1) W)) := Hd fun W => rof_any 1 1 W (by omega)
  subst h30
  go_in
  go_wp2_with fail
  refine (cO0.out _).mono ?_
  rintro e u0 ⟨P0, k0, d0, rfl, hk0, hs0, hb0⟩
  have HS0 := Hd hs0
  have HB0 := Hd hb0
  simp only [List.length_replicate] at hk0
  subst hk0
  clear hs0 hb0
  go_wp2_with fail
  go_ret2
  exact ⟨P0, _, d0, none, 0, 0, rfl, by simp [effM], by simp [effM], by simpa [effM] using HS0.out, by simpa [effM] using sli_nil _, HB0.out⟩
 have e30 : (o == 30) = false := by simpa using h30
 by_cases h27 : o = 27
 ·have cO0 : Hid (∀ W, Calls Tryz.prog 185 #[.int .i64 2, .int .i64 1] W (IsTs (List.replicate 2 1) W)) := Hd fun W => rof_any 2 1 W (by omega)
  subst h27
  go_in
  go_wp2_with fail
  refine (cO0.out _).mono ?_
  rintro e u0 ⟨P0, k0, d0, rfl, hk0, hs0, hb0⟩
  have HS0 := Hd hs0
  have HB0 := Hd hb0
  simp only [List.length_replicate] at hk0
  subst hk0
  clear hs0 hb0
  go_wp2_with fail
  go_ret2
  exact ⟨none, 0, 0, P0, _, d0, rfl, by simp [effM], by simp [effM], by simpa [effM] using sli_nil _, by simpa [effM] using HS0.out, HB0.out⟩
 have e27 : (o == 27) = false := by simpa using h27
 have hE : effM o = ([], []) := by unfold effM; rw [if_neg (by omega), if_neg (by omega), if_neg (by omega), if_neg (by omega), if_neg (by omega), if_neg (by omega), if_neg (by omega), if_neg (by omega)]
 rw [hE]
 clear hE h1 h32 h6 h7 h8 h9 h10 h12 h13 h11 h14 h15 h16 h17 h18 h19 h20 h22 h26 h30 h27
 go_in
 go_wp2_with fail
 go_ret2
 exact ⟨none, 0, 0, none, 0, 0, rfl, rfl, rfl, sli_nil _, sli_nil _, Below.refl _ _⟩
end Go.Proofs.YtobmjnmcjddhcaaGreat
