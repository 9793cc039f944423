/-
  Other numbers: instructions with other operands: the walks.
-/
import Derived.Test.YthfdmpcnebjkjaaRn9
namespace Go.Proofs.Ythfdmpcnebjkjaa
open Go.RowKit
set_option linter.unusedSimpArgs false
set_option linter.unusedVariables false

def chTo (f : DInstr → DInstr) (k : Nat) (xs : List DInstr) : List DInstr := xs.mapIdx fun i x => if i < k then f x else x
theorem chTo_zero (f : DInstr → DInstr) (xs : List DInstr) : chTo f 0 xs = xs := by
  unfold chTo
  apply List.ext_getElem?
  intro i
  simp
theorem chTo_all (f : DInstr → DInstr) (xs : List DInstr) : chTo f xs.length xs = xs.map f := by
  unfold chTo
  apply List.ext_getElem?
  intro i
  rw [List.getElem?_mapIdx, List.getElem?_map]
  by_cases hi : i < xs.length
  · simp [hi]
  · simp [hi]
theorem chTo_at (f : DInstr → DInstr) {k : Nat} {xs : List DInstr} {x : DInstr} (h : xs[k]? = some x) : (chTo f k xs)[k]? = some x := by
  unfold chTo
  rw [List.getElem?_mapIdx, h]
  simp
theorem chTo_set (f : DInstr → DInstr) {k : Nat} {xs : List DInstr} {x : DInstr} (h : xs[k]? = some x) : (chTo f k xs).set k (f x) = chTo f (k + 1) xs := by
  unfold chTo
  apply List.ext_getElem?
  intro i
  have hlt := (List.getElem?_eq_some_iff.1 h).1
  rw [List.getElem?_set, List.getElem?_mapIdx, List.length_mapIdx, List.getElem?_mapIdx]
  by_cases e : k = i
  · subst e
    rw [if_pos rfl, if_pos hlt, h]
    simp
  · rw [if_neg e]
    cases xs[i]? with
    | none => rfl
    | some y =>
      by_cases h1 : i < k
      · have h2 : i < k + 1 := by omega
        simp [h1, h2]
      · have h2 : ¬ i < k + 1 := by omega
        simp [h1, h2]
theorem chTo_skip (f : DInstr → DInstr) {k : Nat} {xs : List DInstr} {x : DInstr} (h : xs[k]? = some x) (hf : f x = x) : chTo f k xs = chTo f (k + 1) xs := by
  rw [← chTo_set f h, hf]
  apply List.ext_getElem?
  intro i
  rw [List.getElem?_set]
  by_cases e : k = i
  · subst e
    rw [if_pos rfl, chTo_at f h, if_pos (by have := (List.getElem?_eq_some_iff.1 (chTo_at f h)).1; exact this)]
  · rw [if_neg e]
theorem flat_set : ∀ (l : List DInstr) (k : Nat) (x : DInstr) (v : Int), l[k]? = some x → (l.flatMap cellsI).set (k * 2 + 1) (.int .i64 v) = (l.set k { x with a := v }).flatMap cellsI
  | [], k, x, v, h => by simp at h
  | y :: l, 0, x, v, h => by
    simp at h
    subst h
    rfl
  | y :: l, k + 1, x, v, h => by
    have ih := flat_set l k x v (by simpa using h)
    have e : (k + 1) * 2 + 1 = k * 2 + 1 + 1 + 1 := by omega
    rw [e]
    show (Value.int .i64 y.op :: .int .i64 y.a :: l.flatMap cellsI).set (k * 2 + 1 + 1 + 1) (.int .i64 v) = .int .i64 y.op :: .int .i64 y.a :: (l.set k { x with a := v }).flatMap cellsI
    rw [← ih]
    rfl

def IsC (n : Nat) (ys : List DInstr) (w : World) (e : Ending) (w' : World) : Prop := ∃ A c, e = .returned (.slice A n c) ∧ SlC w' w'.heap.size A n c ys ∧ Below w.heap.size w w' ∧ w'.ownsRow w.heap.size 49 2 (.slice A n c) n (ys.flatMap cellsI)
theorem ch_step {w wr : World} {g n c k : Nat} {f : DInstr → DInstr} {xs : List DInstr} {x : DInstr} {v : Int} (hx : xs[k]? = some x) (hf : f x = { x with a := v })
    (hown : wr.ownsRow w.heap.size 49 2 (.slice (some ⟨g, 0, none⟩) n c) n ((chTo f k xs).flatMap cellsI)) (hb : Below w.heap.size w wr) :
    (wr.setCell ⟨g, k * 2 + 1, none⟩ (.int .i64 v)).ownsRow w.heap.size 49 2 (.slice (some ⟨g, 0, none⟩) n c) n ((chTo f (k + 1) xs).flatMap cellsI) ∧ Below w.heap.size w (wr.setCell ⟨g, k * 2 + 1, none⟩ (.int .i64 v)) := by
  have h := (hown.stored (k * 2 + 1) (.int .i64 v)).1
  rw [flat_set _ k x v (chTo_at f hx), ← hf, chTo_set f hx] at h
  exact ⟨h, below_set hb (hown.lt _ rfl).1 _⟩

set_option maxRecDepth 100000 in
set_option maxHeartbeats 1000000 in
theorem change_Jumps (n c g go : Nat) (A : Option Addr) (xs : List DInstr) (fo : Int → Int) (o1 o2 : Int) (w : World) (h : SlC w w.heap.size A n c xs) (hn : n ≤ 1000) (h1 : w.cell? ⟨go, 0, none⟩ = some (.int .i64 o1)) (h2 : w.cell? ⟨go, 1, none⟩ = some (.int .i64 o2))
    (hcl : ∀ (W : World) (a : Int), Below w.heap.size w W → Hid (Calls Try.prog 51 #[.int .i64 a, .pointer (some ⟨g, 0, none⟩)] W fun e w' => e = .returned (.int .i64 (fo a)) ∧ W = w')) :
    Calls Try.prog 52 #[.slice A n c, .func (.func 51) #[] #[.pointer (some ⟨g, 0, none⟩)], .slice (some ⟨go, 0, none⟩) 2 2] w (IsC n (xs.map (chM fo o1 o2)) w) := by
  have HLn := Lib.hid h.1
  have c1 : Hid (Calls Try.prog 57 #[.slice A n c] w (IsOwnC n xs w)) := cloneI_any A n c xs w h hn
  have hgo : go < w.heap.size := World.block_lt_of_cell? _ _ h1
  have cC : ∀ (W : World) (o : Int), Below w.heap.size w W → Hid (Calls Try.prog 58 #[.slice (some ⟨go, 0, none⟩) 2 2, .int .i64 o] W fun e w' => e = .returned (.bool (decide (o = o1 ∨ o = o2))) ∧ W = w') :=
    fun W o hW => contains_two o1 o2 o go W ((hW.cell hgo).trans h1) ((hW.cell hgo).trans h2)
  clear h h1 h2 hgo
  go_enter Try.func52, Try.ntmps52
  go_wp2_with fail
  refine Calls.mono c1.out ?_
  rintro e w1 ⟨A1, c1', rfl, hown, hb⟩
  have HO : Hid (w1.ownsRow w.heap.size 49 2 (.slice A1 n c1') n ((chTo (chM fo o1 o2) 0 xs).flatMap cellsI)) := Lib.hid (by rw [chTo_zero]; exact hown)
  have HB := Lib.hid hb
  clear hown hb c1
  go_wp2_with fail
  go_loopw [13] (fun i wr => ∃ k : Nat, i = .int .i64 k ∧ k ≤ n ∧ Hid (wr.ownsRow w.heap.size 49 2 (.slice A1 n c1') n ((chTo (chM fo o1 o2) k xs).flatMap cellsI)) ∧ Hid (Below w.heap.size w wr)) (fun i _ => n - (intOf i).toNat)
  case atStart => exact ⟨0, rfl, Nat.zero_le _, HO, HB⟩
  case round =>
    obtain ⟨k, rfl, hk, ho, hb⟩ := hrel
    by_cases hlt : k < n
    · obtain ⟨x, hx⟩ : ∃ x, xs[k]? = some x := ⟨xs[k]'(by have := HLn.out; omega), List.getElem?_eq_getElem _⟩
      obtain ⟨A2, c2, hv, hA0, hA1⟩ := own_form ho.out
      simp only [Value.slice.injEq, true_and] at hv
      obtain ⟨rfl, rfl⟩ := hv
      obtain ⟨ad, rfl⟩ : ∃ ad, A1 = some ad := by
        cases A1 with
        | none => exact absurd (hA0 rfl) (by omega)
        | some ad => exact ⟨ad, rfl⟩
      obtain ⟨gg, rfl, _, _⟩ := hA1 ad rfl
      have hat := chTo_at (chM fo o1 o2) hx
      have q0 : wr.cell? ⟨gg, k * 2, none⟩ = some (.int .i64 x.op) := (ho.out.cellAt (k * 2) (by omega)).trans (by have := flatMap_at cellsI (sz := 2) (fun _ => rfl) _ k 0 x _ (by omega) hat rfl; exact this)
      have q1 : wr.cell? ⟨gg, k * 2 + 1, none⟩ = some (.int .i64 x.a) := (ho.out.cellAt (k * 2 + 1) (by omega)).trans (flatMap_at cellsI (sz := 2) (fun _ => rfl) _ k 1 x _ (by omega) hat rfl)
      have f1 := ho.out.frozenAt (k * 2 + 1)
      have cc := cC wr x.op hb.out
      have hk0 : (0 : Int) ≤ (k : Int) := by omega
      have hkn : (k : Int) < (n : Int) := by omega
      clear hat hA0 hA1
      by_cases hm : x.op = o1 ∨ x.op = o2
      · have X := Lib.hid (ch_step (v := fo x.a) hx (by unfold chM; rw [if_pos hm]) ho.out hb.out)
        have cf := hcl wr x.a hb.out
        rw [decide_eq_true hm] at cc
        clear hm hx hcl cC
        obtain ⟨xo, xa⟩ := x
        simp only at q0 q1 cc cf X
        obtain ⟨v, hv⟩ : ∃ v, fo xa = v := ⟨_, rfl⟩
        rw [hv] at cf X
        clear hv
        go_wp2_with fail
        refine Calls.mono cc.out ?_
        rintro e w' ⟨rfl, rfl⟩
        go_wp2_with fail
        refine Calls.mono cf.out ?_
        rintro e w' ⟨rfl, rfl⟩
        go_wp2_with fail
        go_roundw
        case rel => exact ⟨k + 1, by go_num, by omega, X.out.1, X.out.2⟩
        case measure => simp [intOf]; omega
      · have X : Hid (wr.ownsRow w.heap.size 49 2 (.slice (some ⟨gg, 0, none⟩) n c1') n ((chTo (chM fo o1 o2) (k + 1) xs).flatMap cellsI)) := Lib.hid (by rw [← chTo_skip (chM fo o1 o2) hx (by unfold chM; rw [if_neg hm])]; exact ho.out)
        rw [decide_eq_false hm] at cc
        clear hm hx hcl cC
        obtain ⟨xo, xa⟩ := x
        simp only at q0 q1 cc
        go_wp2_with fail
        refine Calls.mono cc.out ?_
        rintro e w' ⟨rfl, rfl⟩
        go_wp2_with fail
        go_roundw
        case rel => exact ⟨k + 1, by go_num, by omega, X, hb⟩
        case measure => simp [intOf]; omega
    · have hkn : k = n := by omega
      subst hkn
      have hfin := ho.out
      rw [← HLn.out, chTo_all, HLn.out] at hfin
      have X := Lib.hid (SlR.of_ownN (sz := 2) (bytes := 16) (f := cellsI) (fun _ => rfl) (by omega) hfin (by unfold reachBytes; omega))
      have XO := Lib.hid hfin
      clear hfin
      go_wp2_with fail
      go_ret
      exact ⟨A1, c1', rfl, X.out, hb.out, XO.out⟩

set_option maxRecDepth 100000 in
set_option maxHeartbeats 1000000 in
theorem change_Slots (n c g go : Nat) (A : Option Addr) (xs : List DInstr) (fo : Int → Int) (o1 o2 : Int) (w : World) (h : SlC w w.heap.size A n c xs) (hn : n ≤ 1000) (h1 : w.cell? ⟨go, 0, none⟩ = some (.int .i64 o1)) (h2 : w.cell? ⟨go, 1, none⟩ = some (.int .i64 o2))
    (hcl : ∀ (W : World) (a : Int), Below w.heap.size w W → Hid (Calls Try.prog 54 #[.int .i64 a, .pointer (some ⟨g, 0, none⟩)] W fun e w' => e = .returned (.int .i64 (fo a)) ∧ W = w')) :
    Calls Try.prog 52 #[.slice A n c, .func (.func 54) #[] #[.pointer (some ⟨g, 0, none⟩)], .slice (some ⟨go, 0, none⟩) 2 2] w (IsC n (xs.map (chM fo o1 o2)) w) := by
  have HLn := Lib.hid h.1
  have c1 : Hid (Calls Try.prog 57 #[.slice A n c] w (IsOwnC n xs w)) := cloneI_any A n c xs w h hn
  have hgo : go < w.heap.size := World.block_lt_of_cell? _ _ h1
  have cC : ∀ (W : World) (o : Int), Below w.heap.size w W → Hid (Calls Try.prog 58 #[.slice (some ⟨go, 0, none⟩) 2 2, .int .i64 o] W fun e w' => e = .returned (.bool (decide (o = o1 ∨ o = o2))) ∧ W = w') :=
    fun W o hW => contains_two o1 o2 o go W ((hW.cell hgo).trans h1) ((hW.cell hgo).trans h2)
  clear h h1 h2 hgo
  go_enter Try.func52, Try.ntmps52
  go_wp2_with fail
  refine Calls.mono c1.out ?_
  rintro e w1 ⟨A1, c1', rfl, hown, hb⟩
  have HO : Hid (w1.ownsRow w.heap.size 49 2 (.slice A1 n c1') n ((chTo (chM fo o1 o2) 0 xs).flatMap cellsI)) := Lib.hid (by rw [chTo_zero]; exact hown)
  have HB := Lib.hid hb
  clear hown hb c1
  go_wp2_with fail
  go_loopw [13] (fun i wr => ∃ k : Nat, i = .int .i64 k ∧ k ≤ n ∧ Hid (wr.ownsRow w.heap.size 49 2 (.slice A1 n c1') n ((chTo (chM fo o1 o2) k xs).flatMap cellsI)) ∧ Hid (Below w.heap.size w wr)) (fun i _ => n - (intOf i).toNat)
  case atStart => exact ⟨0, rfl, Nat.zero_le _, HO, HB⟩
  case round =>
    obtain ⟨k, rfl, hk, ho, hb⟩ := hrel
    by_cases hlt : k < n
    · obtain ⟨x, hx⟩ : ∃ x, xs[k]? = some x := ⟨xs[k]'(by have := HLn.out; omega), List.getElem?_eq_getElem _⟩
      obtain ⟨A2, c2, hv, hA0, hA1⟩ := own_form ho.out
      simp only [Value.slice.injEq, true_and] at hv
      obtain ⟨rfl, rfl⟩ := hv
      obtain ⟨ad, rfl⟩ : ∃ ad, A1 = some ad := by
        cases A1 with
        | none => exact absurd (hA0 rfl) (by omega)
        | some ad => exact ⟨ad, rfl⟩
      obtain ⟨gg, rfl, _, _⟩ := hA1 ad rfl
      have hat := chTo_at (chM fo o1 o2) hx
      have q0 : wr.cell? ⟨gg, k * 2, none⟩ = some (.int .i64 x.op) := (ho.out.cellAt (k * 2) (by omega)).trans (by have := flatMap_at cellsI (sz := 2) (fun _ => rfl) _ k 0 x _ (by omega) hat rfl; exact this)
      have q1 : wr.cell? ⟨gg, k * 2 + 1, none⟩ = some (.int .i64 x.a) := (ho.out.cellAt (k * 2 + 1) (by omega)).trans (flatMap_at cellsI (sz := 2) (fun _ => rfl) _ k 1 x _ (by omega) hat rfl)
      have f1 := ho.out.frozenAt (k * 2 + 1)
      have cc := cC wr x.op hb.out
      have hk0 : (0 : Int) ≤ (k : Int) := by omega
      have hkn : (k : Int) < (n : Int) := by omega
      clear hat hA0 hA1
      by_cases hm : x.op = o1 ∨ x.op = o2
      · have X := Lib.hid (ch_step (v := fo x.a) hx (by unfold chM; rw [if_pos hm]) ho.out hb.out)
        have cf := hcl wr x.a hb.out
        rw [decide_eq_true hm] at cc
        clear hm hx hcl cC
        obtain ⟨xo, xa⟩ := x
        simp only at q0 q1 cc cf X
        obtain ⟨v, hv⟩ : ∃ v, fo xa = v := ⟨_, rfl⟩
        rw [hv] at cf X
        clear hv
        go_wp2_with fail
        refine Calls.mono cc.out ?_
        rintro e w' ⟨rfl, rfl⟩
        go_wp2_with fail
        refine Calls.mono cf.out ?_
        rintro e w' ⟨rfl, rfl⟩
        go_wp2_with fail
        go_roundw
        case rel => exact ⟨k + 1, by go_num, by omega, X.out.1, X.out.2⟩
        case measure => simp [intOf]; omega
      · have X : Hid (wr.ownsRow w.heap.size 49 2 (.slice (some ⟨gg, 0, none⟩) n c1') n ((chTo (chM fo o1 o2) (k + 1) xs).flatMap cellsI)) := Lib.hid (by rw [← chTo_skip (chM fo o1 o2) hx (by unfold chM; rw [if_neg hm])]; exact ho.out)
        rw [decide_eq_false hm] at cc
        clear hm hx hcl cC
        obtain ⟨xo, xa⟩ := x
        simp only at q0 q1 cc
        go_wp2_with fail
        refine Calls.mono cc.out ?_
        rintro e w' ⟨rfl, rfl⟩
        go_wp2_with fail
        go_roundw
        case rel => exact ⟨k + 1, by go_num, by omega, X, hb⟩
        case measure => simp [intOf]; omega
    · have hkn : k = n := by omega
      subst hkn
      have hfin := ho.out
      rw [← HLn.out, chTo_all, HLn.out] at hfin
      have X := Lib.hid (SlR.of_ownN (sz := 2) (bytes := 16) (f := cellsI) (fun _ => rfl) (by omega) hfin (by unfold reachBytes; omega))
      have XO := Lib.hid hfin
      clear hfin
      go_wp2_with fail
      go_ret
      exact ⟨A1, c1', rfl, X.out, hb.out, XO.out⟩

set_option maxRecDepth 100000 in
set_option maxHeartbeats 1000000 in
theorem change_Marks (n c g go : Nat) (A : Option Addr) (xs : List DInstr) (fo : Int → Int) (o1 o2 : Int) (w : World) (h : SlC w w.heap.size A n c xs) (hn : n ≤ 1000) (h1 : w.cell? ⟨go, 0, none⟩ = some (.int .i64 o1)) (h2 : w.cell? ⟨go, 1, none⟩ = some (.int .i64 o2))
    (hcl : ∀ (W : World) (a : Int), Below w.heap.size w W → Hid (Calls Try.prog 53 #[.int .i64 a, .pointer (some ⟨g, 0, none⟩)] W fun e w' => e = .returned (.int .i64 (fo a)) ∧ W = w')) :
    Calls Try.prog 52 #[.slice A n c, .func (.func 53) #[] #[.pointer (some ⟨g, 0, none⟩)], .slice (some ⟨go, 0, none⟩) 2 2] w (IsC n (xs.map (chM fo o1 o2)) w) := by
  have HLn := Lib.hid h.1
  have c1 : Hid (Calls Try.prog 57 #[.slice A n c] w (IsOwnC n xs w)) := cloneI_any A n c xs w h hn
  have hgo : go < w.heap.size := World.block_lt_of_cell? _ _ h1
  have cC : ∀ (W : World) (o : Int), Below w.heap.size w W → Hid (Calls Try.prog 58 #[.slice (some ⟨go, 0, none⟩) 2 2, .int .i64 o] W fun e w' => e = .returned (.bool (decide (o = o1 ∨ o = o2))) ∧ W = w') :=
    fun W o hW => contains_two o1 o2 o go W ((hW.cell hgo).trans h1) ((hW.cell hgo).trans h2)
  clear h h1 h2 hgo
  go_enter Try.func52, Try.ntmps52
  go_wp2_with fail
  refine Calls.mono c1.out ?_
  rintro e w1 ⟨A1, c1', rfl, hown, hb⟩
  have HO : Hid (w1.ownsRow w.heap.size 49 2 (.slice A1 n c1') n ((chTo (chM fo o1 o2) 0 xs).flatMap cellsI)) := Lib.hid (by rw [chTo_zero]; exact hown)
  have HB := Lib.hid hb
  clear hown hb c1
  go_wp2_with fail
  go_loopw [13] (fun i wr => ∃ k : Nat, i = .int .i64 k ∧ k ≤ n ∧ Hid (wr.ownsRow w.heap.size 49 2 (.slice A1 n c1') n ((chTo (chM fo o1 o2) k xs).flatMap cellsI)) ∧ Hid (Below w.heap.size w wr)) (fun i _ => n - (intOf i).toNat)
  case atStart => exact ⟨0, rfl, Nat.zero_le _, HO, HB⟩
  case round =>
    obtain ⟨k, rfl, hk, ho, hb⟩ := hrel
    by_cases hlt : k < n
    · obtain ⟨x, hx⟩ : ∃ x, xs[k]? = some x := ⟨xs[k]'(by have := HLn.out; omega), List.getElem?_eq_getElem _⟩
      obtain ⟨A2, c2, hv, hA0, hA1⟩ := own_form ho.out
      simp only [Value.slice.injEq, true_and] at hv
      obtain ⟨rfl, rfl⟩ := hv
      obtain ⟨ad, rfl⟩ : ∃ ad, A1 = some ad := by
        cases A1 with
        | none => exact absurd (hA0 rfl) (by omega)
        | some ad => exact ⟨ad, rfl⟩
      obtain ⟨gg, rfl, _, _⟩ := hA1 ad rfl
      have hat := chTo_at (chM fo o1 o2) hx
      have q0 : wr.cell? ⟨gg, k * 2, none⟩ = some (.int .i64 x.op) := (ho.out.cellAt (k * 2) (by omega)).trans (by have := flatMap_at cellsI (sz := 2) (fun _ => rfl) _ k 0 x _ (by omega) hat rfl; exact this)
      have q1 : wr.cell? ⟨gg, k * 2 + 1, none⟩ = some (.int .i64 x.a) := (ho.out.cellAt (k * 2 + 1) (by omega)).trans (flatMap_at cellsI (sz := 2) (fun _ => rfl) _ k 1 x _ (by omega) hat rfl)
      have f1 := ho.out.frozenAt (k * 2 + 1)
      have cc := cC wr x.op hb.out
      have hk0 : (0 : Int) ≤ (k : Int) := by omega
      have hkn : (k : Int) < (n : Int) := by omega
      clear hat hA0 hA1
      by_cases hm : x.op = o1 ∨ x.op = o2
      · have X := Lib.hid (ch_step (v := fo x.a) hx (by unfold chM; rw [if_pos hm]) ho.out hb.out)
        have cf := hcl wr x.a hb.out
        rw [decide_eq_true hm] at cc
        clear hm hx hcl cC
        obtain ⟨xo, xa⟩ := x
        simp only at q0 q1 cc cf X
        obtain ⟨v, hv⟩ : ∃ v, fo xa = v := ⟨_, rfl⟩
        rw [hv] at cf X
        clear hv
        go_wp2_with fail
        refine Calls.mono cc.out ?_
        rintro e w' ⟨rfl, rfl⟩
        go_wp2_with fail
        refine Calls.mono cf.out ?_
        rintro e w' ⟨rfl, rfl⟩
        go_wp2_with fail
        go_roundw
        case rel => exact ⟨k + 1, by go_num, by omega, X.out.1, X.out.2⟩
        case measure => simp [intOf]; omega
      · have X : Hid (wr.ownsRow w.heap.size 49 2 (.slice (some ⟨gg, 0, none⟩) n c1') n ((chTo (chM fo o1 o2) (k + 1) xs).flatMap cellsI)) := Lib.hid (by rw [← chTo_skip (chM fo o1 o2) hx (by unfold chM; rw [if_neg hm])]; exact ho.out)
        rw [decide_eq_false hm] at cc
        clear hm hx hcl cC
        obtain ⟨xo, xa⟩ := x
        simp only at q0 q1 cc
        go_wp2_with fail
        refine Calls.mono cc.out ?_
        rintro e w' ⟨rfl, rfl⟩
        go_wp2_with fail
        go_roundw
        case rel => exact ⟨k + 1, by go_num, by omega, X, hb⟩
        case measure => simp [intOf]; omega
    · have hkn : k = n := by omega
      subst hkn
      have hfin := ho.out
      rw [← HLn.out, chTo_all, HLn.out] at hfin
      have X := Lib.hid (SlR.of_ownN (sz := 2) (bytes := 16) (f := cellsI) (fun _ => rfl) (by omega) hfin (by unfold reachBytes; omega))
      have XO := Lib.hid hfin
      clear hfin
      go_wp2_with fail
      go_ret
      exact ⟨A1, c1', rfl, X.out, hb.out, XO.out⟩

set_option maxRecDepth 100000 in
theorem jumps_any (n c m d : Nat) (A P : Option Addr) (xs : List DInstr) (pl : List Int) (w : World) (h : SlC w w.heap.size A n c xs) (hp : SlI w w.heap.size P m d pl) (hn : n ≤ 1000) (hm : m ≤ 3000) :
    Calls Try.prog 41 #[.slice A n c, .slice P m d] w (IsC n (xs.map (chM (jumpM pl) 21 22)) w) := by
  have H := Lib.hid h
  have HP := Lib.hid hp
  clear h hp
  go_enter Try.func41, Try.ntmps41
  go_wp2_with fail
  have hb2 : Below w.heap.size w ((w.alloc (.cells #[.slice P m d] 24)).alloc (.cells #[.int .i64 21, .int .i64 22] 47)) := ((Below.refl _ _).alloc (Nat.le_refl _) _).alloc (by simp) _
  have hz : (w.alloc (.cells #[.slice P m d] 24)).heap.size = w.heap.size + 1 := by simp
  have h1 := cell_of_row _ (w.alloc (.cells #[.slice P m d] 24)).heap.size 0 #[.int .i64 21, .int .i64 22] 47 (0, 0) (heap_alloc_new (w.alloc (.cells #[.slice P m d] 24)) _)
  have h2 := cell_of_row _ (w.alloc (.cells #[.slice P m d] 24)).heap.size 1 #[.int .i64 21, .int .i64 22] 47 (0, 0) (heap_alloc_new (w.alloc (.cells #[.slice P m d] 24)) _)
  rw [hz] at h1 h2
  have hc0 : ((w.alloc (.cells #[.slice P m d] 24)).alloc (.cells #[.int .i64 21, .int .i64 22] 47)).cell? ⟨w.heap.size, 0, none⟩ = some (.slice P m d) := (World.cell?_alloc_lt _ _ _ (by simp)).trans (cell_of_row _ w.heap.size 0 _ _ (0, 0) (heap_alloc_new w _))
  refine (change_Jumps n c w.heap.size (w.heap.size + 1) A xs (jumpM pl) 21 22 _ (H.out.on hb2) hn h1 h2 (fun W a hW => jumps_fn a w.heap.size m d w.heap.size P pl W ((hW.cell (by simp; omega)).trans hc0) (HP.out.keep (hb2.trans (hW.mono hb2.size)) (Nat.le_refl _)) hm)).mono ?_
  rintro e w2 ⟨B, d', rfl, s2, b2, o2⟩
  have O2 := Lib.hid (own_less o2 hb2.size)
  have S2 := Lib.hid s2
  have HB := Lib.hid (bl_trans hb2 hb2.size b2)
  clear s2 b2 o2 h1 h2 hc0 hb2 hz
  go_wp2_with fail
  go_ret
  exact ⟨B, d', rfl, S2.out, HB.out, O2.out⟩
set_option maxRecDepth 100000 in
theorem slots_any (n c : Nat) (A : Option Addr) (xs : List DInstr) (b : Int) (w : World) (h : SlC w w.heap.size A n c xs) (hn : n ≤ 1000) :
    Calls Try.prog 44 #[.slice A n c, .int .i64 b] w (IsC n (xs.map (chM (fun a => wrap64 (a + b)) 2 3)) w) := by
  have H := Lib.hid h
  clear h
  go_enter Try.func44, Try.ntmps44
  go_wp2_with fail
  have hb2 : Below w.heap.size w ((w.alloc (.cells #[.int .i64 b] 3)).alloc (.cells #[.int .i64 2, .int .i64 3] 47)) := ((Below.refl _ _).alloc (Nat.le_refl _) _).alloc (by simp) _
  have hz : (w.alloc (.cells #[.int .i64 b] 3)).heap.size = w.heap.size + 1 := by simp
  have h1 := cell_of_row _ (w.alloc (.cells #[.int .i64 b] 3)).heap.size 0 #[.int .i64 2, .int .i64 3] 47 (0, 0) (heap_alloc_new (w.alloc (.cells #[.int .i64 b] 3)) _)
  have h2 := cell_of_row _ (w.alloc (.cells #[.int .i64 b] 3)).heap.size 1 #[.int .i64 2, .int .i64 3] 47 (0, 0) (heap_alloc_new (w.alloc (.cells #[.int .i64 b] 3)) _)
  rw [hz] at h1 h2
  have hc0 : ((w.alloc (.cells #[.int .i64 b] 3)).alloc (.cells #[.int .i64 2, .int .i64 3] 47)).cell? ⟨w.heap.size, 0, none⟩ = some (.int .i64 b) := (World.cell?_alloc_lt _ _ _ (by simp)).trans (cell_of_row _ w.heap.size 0 _ _ (0, 0) (heap_alloc_new w _))
  refine (change_Slots n c w.heap.size (w.heap.size + 1) A xs (fun a => wrap64 (a + b)) 2 3 _ (H.out.on hb2) hn h1 h2 (fun W a hW => slots_fn a b w.heap.size W ((hW.cell (by simp; omega)).trans hc0))).mono ?_
  rintro e w2 ⟨B, d, rfl, s2, b2, o2⟩
  have O2 := Lib.hid (own_less o2 hb2.size)
  have S2 := Lib.hid s2
  have HB := Lib.hid (bl_trans hb2 hb2.size b2)
  clear s2 b2 o2 h1 h2 hc0 hb2 hz
  go_wp2_with fail
  go_ret
  exact ⟨B, d, rfl, S2.out, HB.out, O2.out⟩
set_option maxRecDepth 100000 in
theorem marks_any (n c : Nat) (A : Option Addr) (xs : List DInstr) (b : Int) (w : World) (h : SlC w w.heap.size A n c xs) (hn : n ≤ 1000) :
    Calls Try.prog 43 #[.slice A n c, .int .i64 b] w (IsC n (xs.map (chM (fun a => wrap64 (a + b)) 33 34)) w) := by
  have H := Lib.hid h
  clear h
  go_enter Try.func43, Try.ntmps43
  go_wp2_with fail
  have hb2 : Below w.heap.size w ((w.alloc (.cells #[.int .i64 b] 3)).alloc (.cells #[.int .i64 33, .int .i64 34] 47)) := ((Below.refl _ _).alloc (Nat.le_refl _) _).alloc (by simp) _
  have hz : (w.alloc (.cells #[.int .i64 b] 3)).heap.size = w.heap.size + 1 := by simp
  have h1 := cell_of_row _ (w.alloc (.cells #[.int .i64 b] 3)).heap.size 0 #[.int .i64 33, .int .i64 34] 47 (0, 0) (heap_alloc_new (w.alloc (.cells #[.int .i64 b] 3)) _)
  have h2 := cell_of_row _ (w.alloc (.cells #[.int .i64 b] 3)).heap.size 1 #[.int .i64 33, .int .i64 34] 47 (0, 0) (heap_alloc_new (w.alloc (.cells #[.int .i64 b] 3)) _)
  rw [hz] at h1 h2
  have hc0 : ((w.alloc (.cells #[.int .i64 b] 3)).alloc (.cells #[.int .i64 33, .int .i64 34] 47)).cell? ⟨w.heap.size, 0, none⟩ = some (.int .i64 b) := (World.cell?_alloc_lt _ _ _ (by simp)).trans (cell_of_row _ w.heap.size 0 _ _ (0, 0) (heap_alloc_new w _))
  refine (change_Marks n c w.heap.size (w.heap.size + 1) A xs (fun a => wrap64 (a + b)) 33 34 _ (H.out.on hb2) hn h1 h2 (fun W a hW => marks_fn a b w.heap.size W ((hW.cell (by simp; omega)).trans hc0))).mono ?_
  rintro e w2 ⟨B, d, rfl, s2, b2, o2⟩
  have O2 := Lib.hid (own_less o2 hb2.size)
  have S2 := Lib.hid s2
  have HB := Lib.hid (bl_trans hb2 hb2.size b2)
  clear s2 b2 o2 h1 h2 hc0 hb2 hz
  go_wp2_with fail
  go_ret
  exact ⟨B, d, rfl, S2.out, HB.out, O2.out⟩
end Go.Proofs.Ythfdmpcnebjkjaa
