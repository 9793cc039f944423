/-
  Other numbers: how long each instruction becomes.
-/
import Derived.Test.YtpladpmkpchndaaRn0
import Derived.Deep.Onto
namespace Go.Proofs.Ytpladpmkpchndaa
open Go.RowKit
set_option linter.unusedSimpArgs false
set_option linter.unusedVariables false

/-! Plain: how long, by the first k of the list. -/
def lk (ps ls : List Int) : Nat → Nat → Int
  | 0, _ => 1
  | k + 1, i => if ps.getD k (-1) = (i : Int) then ls.getD k 0 else lk ps ls k i
theorem lk_miss {ps ls : List Int} {i : Nat} : ∀ {k : Nat}, (∀ j, j < k → ps.getD j (-1) ≠ (i : Int)) → lk ps ls k i = 1
  | 0, _ => rfl
  | k + 1, h => by
    unfold lk
    rw [if_neg (h k (by omega))]
    exact lk_miss fun j hj => h j (by omega)
theorem lk_hit {ps ls : List Int} {i j : Nat} (hj : ps.getD j (-1) = (i : Int)) : ∀ {k : Nat}, j < k → (∀ a, j < a → a < k → ps.getD a (-1) ≠ (i : Int)) → lk ps ls k i = ls.getD j 0
  | 0, h, _ => absurd h (by omega)
  | k + 1, h, hd => by
    unfold lk
    by_cases e : j = k
    · subst e
      rw [if_pos hj]
    · rw [if_neg (hd k (by omega) (by omega))]
      exact lk_hit hj (by omega) fun a h1 h2 => hd a h1 (by omega)
theorem lk_bd {ps ls : List Int} (h : ∀ x ∈ ls, 0 ≤ x ∧ x ≤ 50) (i : Nat) : ∀ k, 0 ≤ lk ps ls k i ∧ lk ps ls k i ≤ 50
  | 0 => ⟨by show (0 : Int) ≤ 1; decide, by show (1 : Int) ≤ 50; decide⟩
  | k + 1 => by
    unfold lk
    split
    · rw [List.getD_eq_getElem?_getD]
      cases hk : ls[k]? with
      | none => exact ⟨by decide, by decide⟩
      | some x => exact h x (List.mem_of_getElem? hk)
    · exact lk_bd h i k
def rowL (ps ls : List Int) (n k : Nat) : List Int := (List.range n).map (lk ps ls k)
theorem map_range_set (n p : Nat) (f : Nat → Int) (v : Int) : ((List.range n).map f).set p v = (List.range n).map (fun i => if i = p then v else f i) := by
  apply List.ext_getElem?
  intro i
  rw [List.getElem?_set]
  by_cases hi : i < n
  · by_cases e : p = i
    · subst e
      simp [hi]
    · have e' : ¬ i = p := fun h => e h.symm
      simp [hi, e, e']
  · by_cases e : p = i
    · subst e
      simp [hi]
    · simp [hi, e]
theorem rowL_set {ps ls : List Int} {n k p : Nat} (hp : ps.getD k (-1) = (p : Int)) : (rowL ps ls n k).set p (ls.getD k 0) = rowL ps ls n (k + 1) := by
  unfold rowL
  rw [map_range_set]
  congr 1
  funext i
  show _ = if ps.getD k (-1) = (i : Int) then ls.getD k 0 else lk ps ls k i
  rw [hp]
  by_cases e : i = p
  · subst e
    rw [if_pos rfl, if_pos rfl]
  · rw [if_neg e, if_neg (by omega)]
theorem rowL_zero (ps ls : List Int) (n : Nat) : rowL ps ls n 0 = List.replicate n 1 := by
  unfold rowL
  apply List.ext_getElem?
  intro i
  by_cases hi : i < n
  · simp [hi, lk]
  · simp [hi]
theorem rowI_set (l : List Int) (p : Nat) (v : Int) : (rowI l).set p (.int .i64 v) = rowI (l.set p v) := by
  unfold rowI
  rw [List.map_set]

abbrev SlI (w : World) (B : Nat) (A : Option Addr) (n c : Nat) (xs : List Int) : Prop := SlR 1 8 (RI .i64) w B A n c xs
theorem sli_of {w : World} {B : Nat} {A : Option Addr} {n c : Nat} {xs : List Int} (h : SlR 1 8 (RInt .i64) w B A n c xs) : SlI w B A n c xs := h.imp fun cs x _ hr => hr.1
theorem SlR.getD {bytes : Nat} {w : World} {B : Nat} {A : Option Addr} {n c : Nat} {xs : List Int} (h : SlR 1 bytes (RI .i64) w B A n c xs) {i : Nat} (hi : i < n) (d : Int) :
    ∃ b off, A = some ⟨b, off, none⟩ ∧ b < B ∧ w.cell? ⟨b, off + i, none⟩ = some (.int .i64 (xs.getD i d)) := by
  obtain ⟨b, off, x, hA, hb, hx, hc⟩ := SlR.cell1 (f := Value.int .i64) h hi
  refine ⟨b, off, hA, hb, ?_⟩
  rw [hc, List.getD_eq_getElem?_getD, hx]
  rfl
theorem below_set {B : Nat} {a w : World} {b o : Nat} (h : Below B a w) (hb : B ≤ b) (v : Value) : Below B a (w.setCell ⟨b, o, none⟩ v) := h.setCell (p := ⟨b, o, none⟩) hb v

def IsRowI (n : Nat) (l : List Int) (w : World) (e : Ending) (w' : World) : Prop := ∃ g, e = .returned (.slice (some ⟨g, 0, none⟩) n n) ∧ w'.ownsRow w.heap.size 3 1 (.slice (some ⟨g, 0, none⟩) n n) n (rowI l) ∧ Below w.heap.size w w'
theorem longer_step {w wr : World} {g n k p : Nat} {ps ls : List Int} (hp : ps.getD k (-1) = (p : Int)) (hown : wr.ownsRow w.heap.size 3 1 (.slice (some ⟨g, 0, none⟩) n n) n (rowI (rowL ps ls n k))) (hb : Below w.heap.size w wr) :
    (wr.setCell ⟨g, p, none⟩ (.int .i64 (ls.getD k 0))).ownsRow w.heap.size 3 1 (.slice (some ⟨g, 0, none⟩) n n) n (rowI (rowL ps ls n (k + 1))) ∧ Below w.heap.size w (wr.setCell ⟨g, p, none⟩ (.int .i64 (ls.getD k 0))) := by
  have h := (hown.stored p (.int .i64 (ls.getD k 0))).1
  rw [rowI_set, rowL_set hp] at h
  exact ⟨h, below_set hb (hown.lt _ rfl).1 _⟩

set_option maxRecDepth 100000 in
set_option maxHeartbeats 1000000 in
theorem longer_any (n a c a' c' B : Nat) (A A' : Option Addr) (ps ls : List Int) (w : World) (hn : n ≤ 1000) (h : SlI w B A a c ps) (h' : SlI w B A' a c' ls) (hB : B ≤ w.heap.size) (ha : a ≤ 1000) (hp : ∀ k, k < a → 0 ≤ ps.getD k (-1) ∧ ps.getD k (-1) < (n : Int)) :
    Calls Try.prog 73 #[.int .i64 (n : Int), .slice A a c, .slice A' a c'] w (IsRowI n (rowL ps ls n a) w) := by
  have H := Lib.hid h
  have H' := Lib.hid h'
  have HP := Lib.hid hp
  have HB := Lib.hid hB
  have hmax : max (n : Int) 0 = (n : Int) := by omega
  have hn0 : (0 : Int) ≤ (n : Int) := by omega
  clear h h' hp hB
  go_enter Try.func73, Try.ntmps73
  go_wp2_with fail
  refine (repeat_any _ n _ _ hn (by omega) (cell_of_row _ w.heap.size 0 #[.int .i64 1] 3 (0, 0) (heap_alloc_new w _))).mono ?_
  rintro e w1 ⟨g, rfl, hown, hb⟩
  have hown1 : w1.ownsRow w.heap.size 3 1 (.slice (some ⟨g, 0, none⟩) n n) n (rowI (rowL ps ls n 0)) := by rw [rowL_zero]; exact hown.mono (by simp)
  have hb1 : Below w.heap.size w w1 := ((Below.refl _ _).alloc (Nat.le_refl _) _).trans (hb.mono (by simp))
  have HO := Lib.hid hown1
  have HW := Lib.hid hb1
  clear hown hb hown1 hb1
  go_wp2_with fail
  go_loopw [16] (fun i wr => ∃ k : Nat, i = .int .i64 k ∧ k ≤ a ∧ Hid (wr.ownsRow w.heap.size 3 1 (.slice (some ⟨g, 0, none⟩) n n) n (rowI (rowL ps ls n k))) ∧ Hid (Below w.heap.size w wr)) (fun i _ => a - (intOf i).toNat)
  case atStart => exact ⟨0, rfl, Nat.zero_le _, HO, HW⟩
  case round =>
    obtain ⟨k, rfl, hk, ho, hb⟩ := hrel
    by_cases hlt : k < a
    · obtain ⟨b, off, rfl, hbB, q0⟩ := H.out.getD hlt (-1)
      obtain ⟨b', off', rfl, hbB', q0'⟩ := H'.out.getD hlt 0
      obtain ⟨hp0, hp1⟩ := HP.out k hlt
      obtain ⟨p, hp⟩ : ∃ p : Nat, ps.getD k (-1) = (p : Int) := ⟨(ps.getD k (-1)).toNat, by omega⟩
      have hbw := HB.out
      have q1 : wr.cell? ⟨b, off + k, none⟩ = some (.int .i64 (p : Int)) := by rw [← hp]; exact (hb.out.cell (by show b < _; omega)).trans q0
      have q1' : wr.cell? ⟨b', off' + k, none⟩ = some (.int .i64 (ls.getD k 0)) := (hb.out.cell (by show b' < _; omega)).trans q0'
      rw [hp] at hp0 hp1
      have hpn : p < n := by omega
      have X := Lib.hid (longer_step hp ho.out hb.out)
      have hl := ho.out.1
      obtain ⟨u, d0⟩ : ∃ u, wr.cell? ⟨g, p, none⟩ = some u := ⟨_, (ho.out.cellAt p (by omega)).trans (List.getElem?_eq_getElem (by omega))⟩
      have f0 := ho.out.frozenAt p
      obtain ⟨v, hv⟩ : ∃ v, ls.getD k 0 = v := ⟨_, rfl⟩
      rw [hv] at q1' X
      have hka : (k : Int) < (a : Int) := by omega
      have hk0 : (0 : Int) ≤ (k : Int) := by omega
      clear hp hv hl q0 q0' hbB hbB' hbw
      go_wp2_with fail
      go_roundw
      case rel => exact ⟨k + 1, by go_num, by omega, X.out.1, X.out.2⟩
      case measure => simp [intOf]; omega
    · have hkn : k = a := by omega
      subst hkn
      go_wp2_with fail
      go_ret
      exact ⟨g, rfl, ho.out, hb.out⟩

set_option maxRecDepth 100000 in
set_option maxHeartbeats 1000000 in
theorem long_any (i a c a' c' B : Nat) (A A' : Option Addr) (ps ls : List Int) (w : World) (h : SlI w B A a c ps) (h' : SlI w B A' a c' ls) (ha : a ≤ 1000) (hd : ∀ j k, j < k → k < a → ps.getD j (-1) ≠ ps.getD k (-1)) :
    Calls Try.prog 74 #[.int .i64 (i : Int), .slice A a c, .slice A' a c'] w fun e w' => e = .returned (.int .i64 (lk ps ls a i)) ∧ w = w' := by
  have H := Lib.hid h
  have H' := Lib.hid h'
  have HD := Lib.hid hd
  clear h h' hd
  go_enter Try.func74, Try.ntmps74
  go_wp2_with fail
  go_loop [7] (fun j => ∃ k : Nat, j = .int .i64 k ∧ k ≤ a ∧ Hid (∀ j, j < k → ps.getD j (-1) ≠ (i : Int))) (fun j => a - (intOf j).toNat)
  case atStart => exact ⟨0, rfl, Nat.zero_le _, Lib.hid (fun j hj => absurd hj (by omega))⟩
  case round =>
    obtain ⟨k, rfl, hk, hm⟩ := hrel
    by_cases hlt : k < a
    · obtain ⟨b, off, rfl, hbB, q0⟩ := H.out.getD hlt (-1)
      obtain ⟨b', off', rfl, hbB', q0'⟩ := H'.out.getD hlt 0
      have hka : (k : Int) < (a : Int) := by omega
      have hk0 : (0 : Int) ≤ (k : Int) := by omega
      by_cases hp : ps.getD k (-1) = (i : Int)
      · have hit : Hid (lk ps ls a i = ls.getD k 0) := Lib.hid (lk_hit hp hlt fun x h1 h2 => by rw [← hp]; exact fun e => HD.out k x h1 h2 e.symm)
        rw [hp] at q0
        have t0 : ((i : Int) == (i : Int)) = true := by simp
        clear hp
        go_wp2_with fail
        go_ret
        exact ⟨by rw [hit.out]; rfl, rfl⟩
      · have hm' : Hid (∀ j, j < k + 1 → ps.getD j (-1) ≠ (i : Int)) := Lib.hid (fun j hj => by
          by_cases e : j = k
          · rw [e]; exact hp
          · exact hm.out j (by omega))
        have t0 : (ps.getD k (-1) == (i : Int)) = false := by simpa using hp
        generalize ps.getD k (-1) = v at *
        go_wp2_with fail
        go_round
        case rel => exact ⟨k + 1, by go_num, by omega, hm'⟩
        case measure => simp [intOf]; omega
    · have hkn : k = a := by omega
      subst hkn
      have miss : Hid (lk ps ls k i = 1) := Lib.hid (lk_miss hm.out)
      go_wp2_with fail
      go_ret
      exact ⟨by rw [miss.out]; rfl, rfl⟩
end Go.Proofs.Ytpladpmkpchndaa
