/-
  Rows of whole numbers: what is appended; whether two rows are the same (the document's Ints, at two rows of one text).
-/
import Derived.Test.YthfdmpcnebjkjaaApp
import Derived.Test.YthfdmpcnebjkjaaKp
import Derived.Test.YthfdmpcnebjkjaaHeld
import Derived.Test.YthfdmpcnebjkjaaMtN
import Derived.BigRegion
import Derived.BigQuiet
import Derived.Deep.Cut
import Derived.OrdersHeld
namespace Go.Proofs.Ythfdmpcnebjkjaa
open Go.RowKit
set_option linter.unusedSimpArgs false
set_option linter.unusedVariables false
def rowI (l : List Int) : List Value := l.map (Value.int .i64)
abbrev SlI (w : World) (B : Nat) (A : Option Addr) (n c : Nat) (xs : List Int) : Prop := SlR 1 8 (RI .i64) w B A n c xs
theorem SlR.getD {bytes : Nat} {w : World} {B : Nat} {A : Option Addr} {n c : Nat} {xs : List Int} (h : SlR 1 bytes (RI .i64) w B A n c xs) {i : Nat} (hi : i < n) (d : Int) :
    ∃ b off, A = some ⟨b, off, none⟩ ∧ b < B ∧ w.cell? ⟨b, off + i, none⟩ = some (.int .i64 (xs.getD i d)) := by
  obtain ⟨b, off, x, hA, hb, hx, hc⟩ := SlR.cell1 (f := Value.int .i64) h hi
  refine ⟨b, off, hA, hb, ?_⟩
  rw [hc, List.getD_eq_getElem?_getD, hx]
  rfl
theorem SlI.own {w : World} {base : Nat} {A : Option Addr} {n c : Nat} {xs : List Int} (h : w.ownsRow base 3 1 (.slice A n c) n (rowI xs)) (hb : n ≤ 100000) : SlI w w.heap.size A n c xs := by
  have e : rowI xs = xs.flatMap fun x => [Value.int .i64 x] := by
    unfold rowI
    clear h
    induction xs with
    | nil => rfl
    | cons a l ih => rw [List.map_cons, List.flatMap_cons, ih]; rfl
  rw [e] at h
  exact SlR.of_ownN (sz := 1) (bytes := 8) (f := fun x => [Value.int .i64 x]) (fun _ => rfl) (by omega) h (by unfold reachBytes; omega)
theorem SlI.keep {w w' : World} {B : Nat} {A : Option Addr} {n c : Nat} {xs : List Int} (h : SlI w B A n c xs) (hb : Below w.heap.size w w') (hB : B ≤ w.heap.size) : SlI w' B A n c xs := SlR.keep (stable_rc _) h fun p hp => hb.cell (by omega)
theorem app_int {w wr w3 : World} {base k c : Nat} {A : Option Addr} {l : List Int} {v : Int} {v' : Value} (hb : Below base w wr) (hbw : base ≤ wr.heap.size) (hown : wr.ownsRow base 3 1 (.slice A k c) k (rowI l))
    (hown' : w3.ownsRow base 3 1 v' (k + 1) (rowI l ++ [.int .i64 v])) (hgrow : (wr.alloc (.cells #[.int .i64 v] 3)).grownBy w3 (Value.slice A k c).ownBlock) :
    ∃ A' c', v' = .slice A' (k + 1) c' ∧ w3.ownsRow base 3 1 (.slice A' (k + 1) c') (k + 1) (rowI (l ++ [v])) ∧ Below base w w3 ∧ base ≤ w3.heap.size := by
  have e : rowI l ++ [.int .i64 v] = rowI (l ++ [v]) := by simp [rowI]
  rw [e] at hown'
  obtain ⟨A', c', hv, _⟩ := own_form hown'
  subst hv
  have h3 : Below base w w3 := Below.grown (hb.alloc hbw _) hgrow (by simp; omega) (fun j hj => (hown.lt _ hj).1)
  refine ⟨A', c', rfl, hown', h3, ?_⟩
  have := hgrow.size
  simp at this
  omega
theorem src_int (w : World) (v : Int) : SrcCells (w.alloc (.cells #[.int .i64 v] 3)) (some ⟨w.heap.size, 0, none⟩) 1 1 [.int .i64 v] :=
  own_src (World.ownsRow_lit (base := w.heap.size) (e := 3) (size := 1) w #[.int .i64 v] 1 (Nat.le_refl _) (by unfold maxLen; omega) rfl)
theorem one_int (v : Int) : ∀ u ∈ [Value.int .i64 v], u.oneCell' = true := by
  intro u hu
  simp at hu
  subst hu
  rfl
set_option maxRecDepth 100000 in
set_option maxHeartbeats 1000000 in
theorem ints_same (n c c' : Nat) (A A' : Option Addr) (xs : List Int) (w : World) (h : SlI w w.heap.size A n c xs) (h' : SlI w w.heap.size A' n c' xs) (hn : n ≤ 100000) :
    Calls Try.prog 11 #[.slice A n c, .slice A' n c'] w fun e w' => e = .returned (.bool true) ∧ Below w.heap.size w w' := by
  have H := Lib.hid h
  have H' := Lib.hid h'
  have t0 : ((n : Int) != (n : Int)) = false := by simp
  clear h h'
  go_enter Try.func11, Try.ntmps11
  go_wp2_with fail
  go_loopw [5] (fun i wr => ∃ k : Nat, i = .int .i64 k ∧ k ≤ n ∧ Hid (Below w.heap.size w wr)) (fun i _ => n - (intOf i).toNat)
  case atStart => exact ⟨0, rfl, Nat.zero_le _, Lib.hid (Below.refl _ _)⟩
  case round =>
    obtain ⟨k, rfl, hk, hb⟩ := hrel
    by_cases hlt : k < n
    · obtain ⟨b, off, rfl, hbB, q0⟩ := H.out.getD hlt 0
      obtain ⟨b', off', rfl, hbB', q0'⟩ := H'.out.getD hlt 0
      have q1 : wr.cell? ⟨b, off + k, none⟩ = some (.int .i64 (xs.getD k 0)) := (hb.out.cell hbB).trans q0
      have q1' : wr.cell? ⟨b', off' + k, none⟩ = some (.int .i64 (xs.getD k 0)) := (hb.out.cell hbB').trans q0'
      obtain ⟨v, hv⟩ : ∃ v, xs.getD k 0 = v := ⟨_, rfl⟩
      rw [hv] at q1 q1'
      have tv : (v != v) = false := by simp
      have hka : (k : Int) < (n : Int) := by omega
      have hk0 : (0 : Int) ≤ (k : Int) := by omega
      clear q0 q0' hv hbB hbB'
      go_wp2_with fail
      go_quiet (fail)
      go_wp2_with fail
      go_roundw
      case rel => exact ⟨k + 1, by go_num, by omega, Lib.hid (below_drewN' hb.out _)⟩
      case measure => simp [intOf]; omega
    · have hkn : k = n := by omega
      subst hkn
      go_wp2_with fail
      go_ret
      exact ⟨rfl, hb.out⟩
end Go.Proofs.Ythfdmpcnebjkjaa
