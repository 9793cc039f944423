/-
  Other numbers: the chapter's example.
-/
import Derived.Test.YtpladpmkpchndaaRn4
namespace Go.Proofs.Ytpladpmkpchndaa
open Go.RowKit
set_option linter.unusedSimpArgs false
set_option linter.unusedVariables false

theorem SlI.on {w w' : World} {A : Option Addr} {n c : Nat} {xs : List Int} (h : SlI w w.heap.size A n c xs) (hb : Below w.heap.size w w') : SlI w' w'.heap.size A n c xs := SlR.more (f := fun x => [Value.int .i64 x]) (h.keep hb (Nat.le_refl _)) hb.size
theorem sli_lit (w : World) (l : List Int) (n : Nat) (hl : l.length = n) (hn : n ≤ 1000) : SlI (w.alloc (.cells (rowI l).toArray 3)) (w.alloc (.cells (rowI l).toArray 3)).heap.size (some ⟨w.heap.size, 0, none⟩) n n l :=
  SlI.own (base := w.heap.size) (World.ownsRow_lit (base := w.heap.size) (e := 3) (size := 1) w (rowI l).toArray n (Nat.le_refl _) (by unfold maxLen; omega) (by simp [rowI, hl])) (by omega)
theorem bel_alloc (w : World) (o : Obj) : Below w.heap.size w (w.alloc o) := (Below.refl _ _).alloc (Nat.le_refl _) _
theorem ok1 : Okl [1] [4] 3 1 := ⟨fun k hk => by
    have : k = 0 := by omega
    subst this
    decide, fun j k h1 h2 => absurd h1 (by omega), fun x hx => by simp at hx; subst hx; decide⟩
theorem ok2 : Okl [0] [2] 2 1 := ⟨fun k hk => by
    have : k = 0 := by omega
    subst this
    decide, fun j k h1 h2 => absurd h1 (by omega), fun x hx => by simp at hx; subst hx; decide⟩
theorem places_lit (w : World) (A A' : Option Addr) (h : SlI w w.heap.size A 1 1 [1]) (h' : SlI w w.heap.size A' 1 1 [4]) :
    Calls Try.prog 29 #[.int .i64 3, .slice A 1 1, .slice A' 1 1] w (IsL 4 [0, 1, 5, 6] w) := by
  have e : upTo (lk [1] [4] 1) 3 = [0, 1, 5, 6] := by decide
  have := places_any 3 1 1 1 1 A A' [1] [4] w (by omega) h h' (by omega) ok1
  rw [e] at this
  exact this
theorem spread_lit (w : World) (A0 A A' : Option Addr) (h0 : SlI w w.heap.size A0 2 2 [7, 8]) (h : SlI w w.heap.size A 1 1 [0]) (h' : SlI w w.heap.size A' 1 1 [2]) :
    Calls Try.prog 31 #[.slice A0 2 2, .slice A 1 1, .slice A' 1 1] w (IsL 3 [7, 7, 8] w) := by
  have e : sprd (lk [0] [2] 1) [7, 8] 2 = [7, 7, 8] := by decide
  have := spread_any 2 1 2 1 1 1 A0 A A' [7, 8] [0] [2] w (by omega) h0 h h' (by omega) ok2
  rw [e] at this
  exact this
set_option maxRecDepth 100000 in
set_option maxHeartbeats 1000000 in
theorem renum_lives (w : World) : Calls Try.prog 27 #[] w fun e w' => e = .returned (.bool true) ∧ Below w.heap.size w w' := by
  go_enter Try.func27, Try.ntmps27
  go_wp2_with fail
  have s1 : SlI ((w.alloc (.cells #[.int .i64 1] 3)).alloc (.cells #[.int .i64 4] 3)) ((w.alloc (.cells #[.int .i64 1] 3)).alloc (.cells #[.int .i64 4] 3)).heap.size (some ⟨w.heap.size, 0, none⟩) 1 1 [1] :=
    (sli_lit w [1] 1 rfl (by omega)).on (bel_alloc _ _)
  have s2 : SlI ((w.alloc (.cells #[.int .i64 1] 3)).alloc (.cells #[.int .i64 4] 3)) ((w.alloc (.cells #[.int .i64 1] 3)).alloc (.cells #[.int .i64 4] 3)).heap.size (some ⟨w.heap.size + 1, 0, none⟩) 1 1 [4] := by
    have := sli_lit (w.alloc (.cells #[.int .i64 1] 3)) [4] 1 rfl (by omega)
    rw [show (w.alloc (.cells #[.int .i64 1] 3)).heap.size = w.heap.size + 1 by simp] at this
    exact this
  have hb1 : Below w.heap.size w ((w.alloc (.cells #[.int .i64 1] 3)).alloc (.cells #[.int .i64 4] 3)) := ((Below.refl _ _).alloc (Nat.le_refl _) _).alloc (by simp) _
  refine (places_lit _ _ _ s1 s2).mono ?_
  rintro e w2 ⟨A, c, rfl, t1, b2⟩
  have hb2 : Below w.heap.size w w2 := bl_trans hb1 hb1.size b2
  have T1 := Lib.hid t1
  have HB2 := Lib.hid hb2
  clear s1 s2 hb1 t1 b2 hb2
  go_wp2_with fail
  refine (ints_same 4 c 4 A _ [0, 1, 5, 6] _ (T1.out.on (bel_alloc _ _)) (sli_lit w2 [0, 1, 5, 6] 4 rfl (by omega)) (by omega)).mono ?_
  rintro e w3 ⟨rfl, b3⟩
  have HB3 := Lib.hid (bl_trans HB2.out HB2.out.size (bl_trans (bel_alloc _ _) (by simp) b3))
  clear b3 T1
  go_wp2_with fail
  have s1 : SlI (((w3.alloc (.cells #[.int .i64 7, .int .i64 8] 3)).alloc (.cells #[.int .i64 0] 3)).alloc (.cells #[.int .i64 2] 3)) (((w3.alloc (.cells #[.int .i64 7, .int .i64 8] 3)).alloc (.cells #[.int .i64 0] 3)).alloc (.cells #[.int .i64 2] 3)).heap.size (some ⟨w3.heap.size, 0, none⟩) 2 2 [7, 8] :=
    ((sli_lit w3 [7, 8] 2 rfl (by omega)).on (bel_alloc _ _)).on (bel_alloc _ _)
  have s2 : SlI (((w3.alloc (.cells #[.int .i64 7, .int .i64 8] 3)).alloc (.cells #[.int .i64 0] 3)).alloc (.cells #[.int .i64 2] 3)) (((w3.alloc (.cells #[.int .i64 7, .int .i64 8] 3)).alloc (.cells #[.int .i64 0] 3)).alloc (.cells #[.int .i64 2] 3)).heap.size (some ⟨w3.heap.size + 1, 0, none⟩) 1 1 [0] := by
    have := (sli_lit (w3.alloc (.cells #[.int .i64 7, .int .i64 8] 3)) [0] 1 rfl (by omega)).on (bel_alloc _ (.cells #[.int .i64 2] 3))
    rw [show (w3.alloc (.cells #[.int .i64 7, .int .i64 8] 3)).heap.size = w3.heap.size + 1 by simp] at this
    exact this
  have s3 : SlI (((w3.alloc (.cells #[.int .i64 7, .int .i64 8] 3)).alloc (.cells #[.int .i64 0] 3)).alloc (.cells #[.int .i64 2] 3)) (((w3.alloc (.cells #[.int .i64 7, .int .i64 8] 3)).alloc (.cells #[.int .i64 0] 3)).alloc (.cells #[.int .i64 2] 3)).heap.size (some ⟨w3.heap.size + 1 + 1, 0, none⟩) 1 1 [2] := by
    have := sli_lit ((w3.alloc (.cells #[.int .i64 7, .int .i64 8] 3)).alloc (.cells #[.int .i64 0] 3)) [2] 1 rfl (by omega)
    rw [show ((w3.alloc (.cells #[.int .i64 7, .int .i64 8] 3)).alloc (.cells #[.int .i64 0] 3)).heap.size = w3.heap.size + 1 + 1 by simp] at this
    exact this
  have hb1 : Below w3.heap.size w3 (((w3.alloc (.cells #[.int .i64 7, .int .i64 8] 3)).alloc (.cells #[.int .i64 0] 3)).alloc (.cells #[.int .i64 2] 3)) := (((Below.refl _ _).alloc (Nat.le_refl _) _).alloc (by simp) _).alloc (by simp; omega) _
  refine (spread_lit _ _ _ _ s1 s2 s3).mono ?_
  rintro e w4 ⟨A', c', rfl, t1, b2⟩
  have hb2 : Below w.heap.size w w4 := bl_trans HB3.out HB3.out.size (bl_trans hb1 hb1.size b2)
  have T1 := Lib.hid t1
  have HB4 := Lib.hid hb2
  clear s1 s2 s3 hb1 t1 b2 hb2
  go_wp2_with fail
  refine (ints_same 3 c' 3 A' _ [7, 7, 8] _ (T1.out.on (bel_alloc _ _)) (sli_lit w4 [7, 7, 8] 3 rfl (by omega)) (by omega)).mono ?_
  rintro e w5 ⟨rfl, b3⟩
  have HB5 := Lib.hid (bl_trans HB4.out HB4.out.size (bl_trans (bel_alloc _ _) (by simp) b3))
  clear b3 T1
  go_wp2_with fail
  go_ret
  exact ⟨rfl, HB5.out⟩
end Go.Proofs.Ytpladpmkpchndaa
