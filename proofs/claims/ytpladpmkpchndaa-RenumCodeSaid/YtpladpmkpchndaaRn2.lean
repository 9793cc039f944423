/-
  Other numbers: where each instruction begins, how often each number stands: the plain side; whether two rows are the same.
-/
import Derived.Test.YtpladpmkpchndaaRn1
namespace Go.Proofs.Ytpladpmkpchndaa
open Go.RowKit
set_option linter.unusedSimpArgs false
set_option linter.unusedVariables false

def psum (f : Nat → Int) : Nat → Int
  | 0 => 0
  | j + 1 => psum f j + f j
theorem psum_bd {f : Nat → Int} (hf : ∀ i, 0 ≤ f i ∧ f i ≤ 50) : ∀ j, 0 ≤ psum f j ∧ psum f j ≤ 50 * (j : Int)
  | 0 => ⟨Int.le_refl 0, by show (0 : Int) ≤ 50 * ((0 : Nat) : Int); omega⟩
  | j + 1 => by
    have h := psum_bd hf j
    have g := hf j
    show 0 ≤ psum f j + f j ∧ psum f j + f j ≤ _
    omega
/-- The places up to the j-th. -/
def upTo (f : Nat → Int) (j : Nat) : List Int := (List.range (j + 1)).map (psum f)
theorem upTo_len (f : Nat → Int) (j : Nat) : (upTo f j).length = j + 1 := by simp [upTo]
theorem upTo_succ (f : Nat → Int) (j : Nat) : upTo f (j + 1) = upTo f j ++ [psum f (j + 1)] := by
  unfold upTo
  rw [List.range_succ, List.map_append]
  rfl
/-- A row of n + 1, filled up to the j-th. -/
def fillTo (f : Nat → Int) (n j : Nat) : List Int := (List.range (n + 1)).map fun i => if i ≤ j then psum f i else 0
theorem fillTo_zero (f : Nat → Int) (n : Nat) : fillTo f n 0 = List.replicate (n + 1) 0 := by
  unfold fillTo
  apply List.ext_getElem?
  intro i
  by_cases hi : i < n + 1
  · by_cases e : i = 0
    · subst e; simp [psum]
    · simp [hi, e]
  · simp [hi]
theorem fillTo_all (f : Nat → Int) (n : Nat) : fillTo f n n = upTo f n := by
  unfold fillTo upTo
  apply List.map_congr_left
  intro i hi
  rw [List.mem_range] at hi
  rw [if_pos (by omega)]
theorem fillTo_set (f : Nat → Int) {n j : Nat} (hj : j < n) : (fillTo f n j).set (j + 1) (psum f j + f j) = fillTo f n (j + 1) := by
  unfold fillTo
  rw [map_range_set]
  apply List.map_congr_left
  intro i hi
  by_cases e : i = j + 1
  · subst e
    rw [if_pos rfl, if_pos (by omega)]
    rfl
  · rw [if_neg e]
    by_cases h : i ≤ j
    · rw [if_pos h, if_pos (by omega)]
    · rw [if_neg h, if_neg (by omega)]
theorem rowI_at {l : List Int} {i : Nat} {x : Int} (h : l[i]? = some x) : (rowI l)[i]? = some (.int .i64 x) := by
  unfold rowI
  rw [List.getElem?_map, h]
  rfl
theorem fillTo_at (f : Nat → Int) {n j : Nat} (hj : j ≤ n) : (rowI (fillTo f n j))[j]? = some (.int .i64 (psum f j)) := by
  apply rowI_at
  unfold fillTo
  rw [List.getElem?_map, List.getElem?_range (by omega)]
  simp
theorem rowL_at (ps ls : List Int) {n a k : Nat} (hk : k < n) : (rowI (rowL ps ls n a))[k]? = some (.int .i64 (lk ps ls a k)) := by
  apply rowI_at
  unfold rowL
  rw [List.getElem?_map, List.getElem?_range hk]
  rfl
def sprd (f : Nat → Int) (l : List Int) : Nat → List Int
  | 0 => []
  | k + 1 => sprd f l k ++ List.replicate (f k).toNat (l.getD k 0)
theorem sprd_len {f : Nat → Int} (hf : ∀ i, 0 ≤ f i ∧ f i ≤ 50) (l : List Int) : ∀ k, (sprd f l k).length ≤ 50 * k
  | 0 => Nat.le_refl _
  | k + 1 => by
    have h := sprd_len hf l k
    have g := hf k
    unfold sprd
    rw [List.length_append, List.length_replicate]
    omega

def IsL (n : Nat) (l : List Int) (w : World) (e : Ending) (w' : World) : Prop := ∃ A c, e = .returned (.slice A n c) ∧ SlI w' w'.heap.size A n c l ∧ Below w.heap.size w w'
theorem SlI.own {w : World} {base : Nat} {A : Option Addr} {n c : Nat} {xs : List Int} (h : w.ownsRow base 3 1 (.slice A n c) n (rowI xs)) (hb : n ≤ 100000) : SlI w w.heap.size A n c xs := by
  have e : rowI xs = xs.flatMap fun x => [Value.int .i64 x] := by
    unfold rowI
    clear h
    induction xs with
    | nil => rfl
    | cons a l ih => rw [List.map_cons, List.flatMap_cons, ih]; rfl
  rw [e] at h
  exact SlR.of_ownN (sz := 1) (bytes := 8) (f := fun x => [Value.int .i64 x]) (fun _ => rfl) (by omega) h (by unfold reachBytes; omega)
theorem SlI.keep {w w' : World} {B : Nat} {A : Option Addr} {n c : Nat} {xs : List Int} (h : SlI w B A n c xs) (hb : Below w.heap.size w w') (hB : B ≤ w.heap.size) : SlI w' B A n c xs := SlR.keep (stable_rc _) h fun p hp => hb.cell (by omega)
/-- One more is put behind a row of the call's own. -/
theorem app_int {w wr w3 : World} {base k c : Nat} {A : Option Addr} {l : List Int} {v : Int} {v' : Value} (hb : Below base w wr) (hbw : base ≤ wr.heap.size) (hown : wr.ownsRow base 3 1 (.slice A k c) k (rowI l))
    (hown' : w3.ownsRow base 3 1 v' (k + 1) (rowI l ++ [.int .i64 v])) (hgrow : (wr.alloc (.cells #[.int .i64 v] 3)).grownBy w3 (Value.slice A k c).ownBlock) :
    ∃ A' c', v' = .slice A' (k + 1) c' ∧ w3.ownsRow base 3 1 (.slice A' (k + 1) c') (k + 1) (rowI (l ++ [v])) ∧ Below base w w3 ∧ base ≤ w3.heap.size := by
  have e : rowI l ++ [.int .i64 v] = rowI (l ++ [v]) := by simp [rowI]
  rw [e] at hown'
  obtain ⟨A', c', hv, _⟩ := own_form hown'
  subst hv
  have h3 : Below base w w3 := Below.grown (hb.alloc hbw _) hgrow (by simp; omega) (fun j hj => (hown.lt _ hj).1)
  refine ⟨A', c', rfl, hown', h3, ?_⟩
  have := hgrow.size
  simp at this
  omega
theorem src_int (w : World) (v : Int) : SrcCells (w.alloc (.cells #[.int .i64 v] 3)) (some ⟨w.heap.size, 0, none⟩) 1 1 [.int .i64 v] :=
  own_src (World.ownsRow_lit (base := w.heap.size) (e := 3) (size := 1) w #[.int .i64 v] 1 (Nat.le_refl _) (by unfold maxLen; omega) rfl)
theorem one_int (v : Int) : ∀ u ∈ [Value.int .i64 v], u.oneCell' = true := by
  intro u hu
  simp at hu
  subst hu
  rfl

set_option maxRecDepth 100000 in
set_option maxHeartbeats 1000000 in
theorem ints_same (n c c' : Nat) (A A' : Option Addr) (xs : List Int) (w : World) (h : SlI w w.heap.size A n c xs) (h' : SlI w w.heap.size A' n c' xs) (hn : n ≤ 100000) :
    Calls Try.prog 28 #[.slice A n c, .slice A' n c'] w fun e w' => e = .returned (.bool true) ∧ Below w.heap.size w w' := by
  have H := Lib.hid h
  have H' := Lib.hid h'
  have t0 : ((n : Int) != (n : Int)) = false := by simp
  clear h h'
  go_enter Try.func28, Try.ntmps28
  go_wp2_with fail
  go_loopw [5] (fun i wr => ∃ k : Nat, i = .int .i64 k ∧ k ≤ n ∧ Hid (Below w.heap.size w wr)) (fun i _ => n - (intOf i).toNat)
  case atStart => exact ⟨0, rfl, Nat.zero_le _, Lib.hid (Below.refl _ _)⟩
  case round =>
    obtain ⟨k, rfl, hk, hb⟩ := hrel
    by_cases hlt : k < n
    · obtain ⟨b, off, rfl, hbB, q0⟩ := H.out.getD hlt 0
      obtain ⟨b', off', rfl, hbB', q0'⟩ := H'.out.getD hlt 0
      have q1 : wr.cell? ⟨b, off + k, none⟩ = some (.int .i64 (xs.getD k 0)) := (hb.out.cell hbB).trans q0
      have q1' : wr.cell? ⟨b', off' + k, none⟩ = some (.int .i64 (xs.getD k 0)) := (hb.out.cell hbB').trans q0'
      obtain ⟨v, hv⟩ : ∃ v, xs.getD k 0 = v := ⟨_, rfl⟩
      rw [hv] at q1 q1'
      have tv : (v != v) = false := by simp
      have hka : (k : Int) < (n : Int) := by omega
      have hk0 : (0 : Int) ≤ (k : Int) := by omega
      clear q0 q0' hv hbB hbB'
      go_wp2_with fail
      go_quiet (fail)
      go_wp2_with fail
      go_roundw
      case rel => exact ⟨k + 1, by go_num, by omega, Lib.hid (below_drewN' hb.out _)⟩
      case measure => simp [intOf]; omega
    · have hkn : k = n := by omega
      subst hkn
      go_wp2_with fail
      go_ret
      exact ⟨rfl, hb.out⟩
end Go.Proofs.Ytpladpmkpchndaa
