/-
  Other numbers: instructions with other operands: the plain side, the closures, whether one stands among two, a copy.
-/
import Derived.Test.YthfdmpcnebjkjaaSp0
import Derived.Test.YthfdmpcnebjkjaaSpT
namespace Go.Proofs.Ythfdmpcnebjkjaa
open Go.RowKit
set_option linter.unusedSimpArgs false
set_option linter.unusedVariables false

def cellsI (x : DInstr) : List Value := [.int .i64 x.op, .int .i64 x.a]
abbrev SlC (w : World) (B : Nat) (A : Option Addr) (n c : Nat) (xs : List DInstr) : Prop := SlR 2 16 (RC cellsI) w B A n c xs
theorem slc_of {w : World} {B : Nat} {A : Option Addr} {n c : Nat} {xs : List DInstr} (h : SlR 2 16 RInstr w B A n c xs) : SlC w B A n c xs := h.imp fun cs x _ hr => hr.1
theorem slc_wf {w : World} {B : Nat} {A : Option Addr} {n c : Nat} {xs : List DInstr} (h : SlR 2 16 RInstr w B A n c xs) : ∀ x ∈ xs, -9223372036854775808 ≤ x.a ∧ x.a ≤ 9223372036854775807 := by
  intro x hx
  obtain ⟨i, hi, rfl⟩ := List.getElem_of_mem hx
  obtain ⟨h1, h2, h3, h4, h5⟩ := h
  obtain ⟨b, off, hA, hb, hel⟩ := h5 (by omega)
  obtain ⟨cs, _, _, hr⟩ := hel i _ (List.getElem?_eq_getElem hi)
  have := hr.2.2
  simpa [Lit.wf, IntKind.min, IntKind.max, IntKind.signed, IntKind.bits] using this
theorem slc_at {w : World} {B : Nat} {A : Option Addr} {n c : Nat} {xs : List DInstr} (h : SlC w B A n c xs) {k : Nat} (hk : k < n) : ∃ b off x, A = some ⟨b, off, none⟩ ∧ b < B ∧ xs[k]? = some x ∧ w.cell? ⟨b, off + k * 2, none⟩ = some (.int .i64 x.op) ∧ w.cell? ⟨b, off + k * 2 + 1, none⟩ = some (.int .i64 x.a) := by
  obtain ⟨b, off, x, cs, hA, hb, hx, _, hc, hr⟩ := h.at_ hk
  unfold RC at hr
  subst hr
  exact ⟨b, off, x, hA, hb, hx, by simpa using hc 0 _ rfl, by simpa [Nat.add_assoc] using hc 1 _ rfl⟩
theorem SlC.on {w w' : World} {A : Option Addr} {n c : Nat} {xs : List DInstr} (h : SlC w w.heap.size A n c xs) (hb : Below w.heap.size w w') : SlC w' w'.heap.size A n c xs := (SlR.keep (stable_rc _) h fun p hp => hb.cell hp).more hb.size
theorem info_instr : (Try.prog.info? 49).map (fun i => (i.zero, i.size, i.bytes)) = some (some (.agg #[.int .i64 0, .int .i64 0]), 2, 16) := by kernel_rfl

/-! What becomes of an instruction. -/
def jumpM (pl : List Int) (a : Int) : Int := if 0 ≤ a ∧ a < (pl.length : Int) then pl.getD a.toNat 0 else a
def instrM (pl : List Int) (s t : Int) (x : DInstr) : DInstr :=
  if x.op = 21 ∨ x.op = 22 then { x with a := jumpM pl x.a }
  else if x.op = 2 ∨ x.op = 3 then { x with a := wrap64 (x.a + s) }
  else if x.op = 33 ∨ x.op = 34 then { x with a := wrap64 (x.a + t) }
  else x
def chM (fo : Int → Int) (o1 o2 : Int) (x : DInstr) : DInstr := if x.op = o1 ∨ x.op = o2 then { x with a := fo x.a } else x
theorem wrap64_in {n : Int} (h : -9223372036854775808 ≤ n ∧ n ≤ 9223372036854775807) : wrap64 (n + 0) = n := by unfold wrap64; omega
theorem ch_jumps {pl : List Int} {x : DInstr} (h : -9223372036854775808 ≤ x.a ∧ x.a ≤ 9223372036854775807) : chM (jumpM pl) 21 22 x = instrM pl 0 0 x := by
  unfold chM instrM
  by_cases h1 : x.op = 21 ∨ x.op = 22
  · rw [if_pos h1, if_pos h1]
  · rw [if_neg h1, if_neg h1, wrap64_in h]
    split
    · rfl
    · split <;> rfl
theorem jump_nil (a : Int) : jumpM [] a = a := by
  unfold jumpM
  rw [if_neg (by simp)]
theorem ch_slots {by_ : Int} {x : DInstr} (h : -9223372036854775808 ≤ x.a ∧ x.a ≤ 9223372036854775807) : chM (fun a => wrap64 (a + by_)) 2 3 x = instrM [] by_ 0 x := by
  unfold chM instrM
  rw [jump_nil, wrap64_in h]
  by_cases h1 : x.op = 21 ∨ x.op = 22
  · rw [if_pos h1, if_neg (by omega)]
  · rw [if_neg h1]
    by_cases h2 : x.op = 2 ∨ x.op = 3
    · rw [if_pos h2, if_pos h2]
    · rw [if_neg h2, if_neg h2]
      split <;> rfl
theorem ch_marks {by_ : Int} {x : DInstr} (h : -9223372036854775808 ≤ x.a ∧ x.a ≤ 9223372036854775807) : chM (fun a => wrap64 (a + by_)) 33 34 x = instrM [] 0 by_ x := by
  unfold chM instrM
  rw [jump_nil, wrap64_in h]
  by_cases h1 : x.op = 21 ∨ x.op = 22
  · rw [if_pos h1, if_neg (by omega)]
  · rw [if_neg h1]
    by_cases h2 : x.op = 2 ∨ x.op = 3
    · rw [if_pos h2, if_neg (by omega)]
    · rw [if_neg h2]

/-! The closures. -/
set_option maxRecDepth 100000 in
theorem slots_fn (a b : Int) (g : Nat) (w : World) (h : w.cell? ⟨g, 0, none⟩ = some (.int .i64 b)) : Calls Try.prog 54 #[.int .i64 a, .pointer (some ⟨g, 0, none⟩)] w fun e w' => e = .returned (.int .i64 (wrap64 (a + b))) ∧ w = w' := by
  go_enter Try.func54, Try.ntmps54
  go_wp2
  go_ret
  exact ⟨rfl, rfl⟩
set_option maxRecDepth 100000 in
theorem marks_fn (a b : Int) (g : Nat) (w : World) (h : w.cell? ⟨g, 0, none⟩ = some (.int .i64 b)) : Calls Try.prog 53 #[.int .i64 a, .pointer (some ⟨g, 0, none⟩)] w fun e w' => e = .returned (.int .i64 (wrap64 (a + b))) ∧ w = w' := by
  go_enter Try.func53, Try.ntmps53
  go_wp2
  go_ret
  exact ⟨rfl, rfl⟩
set_option maxRecDepth 100000 in
theorem jumps_fn (a : Int) (g n c B : Nat) (A : Option Addr) (pl : List Int) (w : World) (h : w.cell? ⟨g, 0, none⟩ = some (.slice A n c)) (hp : SlI w B A n c pl) (hn : n ≤ 3000) : Calls Try.prog 51 #[.int .i64 a, .pointer (some ⟨g, 0, none⟩)] w fun e w' => e = .returned (.int .i64 (jumpM pl a)) ∧ w = w' := by
  have HP := Lib.hid hp
  clear hp
  rcases (show a < 0 ∨ (0 ≤ a ∧ (n : Int) ≤ a) ∨ (0 ≤ a ∧ a < (n : Int)) by omega) with h1 | ⟨h1, h2⟩ | ⟨h1, h2⟩
  · have hj : Hid (jumpM pl a = a) := Lib.hid (by unfold jumpM; rw [if_neg (by omega)])
    go_enter Try.func51, Try.ntmps51
    go_wp2
    go_ret
    exact ⟨by rw [hj.out]; rfl, rfl⟩
  · have hj : Hid (jumpM pl a = a) := Lib.hid (by unfold jumpM; rw [HP.out.1, if_neg (by omega)])
    go_enter Try.func51, Try.ntmps51
    go_wp2
    go_ret
    exact ⟨by rw [hj.out]; rfl, rfl⟩
  · obtain ⟨k, rfl⟩ : ∃ k : Nat, a = (k : Int) := ⟨a.toNat, by omega⟩
    obtain ⟨b, off, rfl, hbB, q0⟩ := HP.out.getD (show k < n by omega) 0
    have hj : Hid (jumpM pl (k : Int) = pl.getD k 0) := Lib.hid (by unfold jumpM; rw [HP.out.1, if_pos (by omega)]; rfl)
    generalize pl.getD k 0 = v at *
    clear hbB
    go_enter Try.func51, Try.ntmps51
    go_wp2
    go_ret
    exact ⟨by rw [hj.out]; rfl, rfl⟩

set_option maxRecDepth 100000 in
theorem index_two (o1 o2 o : Int) (g : Nat) (w : World) (h1 : w.cell? ⟨g, 0, none⟩ = some (.int .i64 o1)) (h2 : w.cell? ⟨g, 1, none⟩ = some (.int .i64 o2)) :
    Calls Try.prog 59 #[.slice (some ⟨g, 0, none⟩) 2 2, .int .i64 o] w fun e w' => e = .returned (.int .i64 (if o = o1 then 0 else if o = o2 then 1 else -1)) ∧ w = w' := by
  by_cases e1 : o = o1
  · rw [if_pos e1]
    subst e1
    go_enter Try.func59, Try.ntmps59
    go_wp2
    refine wp_loop_rounds 1 ?_
    rw [rounds_succ]
    go_wp2
    go_ret
    exact ⟨rfl, rfl⟩
  · rw [if_neg e1]
    have t1 : (o == o1) = false := by simpa using e1
    clear e1
    by_cases e2 : o = o2
    · rw [if_pos e2]
      subst e2
      go_enter Try.func59, Try.ntmps59
      go_wp2
      refine wp_loop_rounds 2 ?_
      rw [rounds_succ]
      go_wp2
      rw [rounds_succ]
      go_wp2
      go_ret
      exact ⟨rfl, rfl⟩
    · rw [if_neg e2]
      have t2 : (o == o2) = false := by simpa using e2
      clear e2
      go_enter Try.func59, Try.ntmps59
      go_wp2
      refine wp_loop_rounds 3 ?_
      rw [rounds_succ]
      go_wp2
      rw [rounds_succ]
      go_wp2
      rw [rounds_succ]
      go_wp2
      go_ret
      exact ⟨rfl, rfl⟩
set_option maxRecDepth 100000 in
theorem contains_two (o1 o2 o : Int) (g : Nat) (w : World) (h1 : w.cell? ⟨g, 0, none⟩ = some (.int .i64 o1)) (h2 : w.cell? ⟨g, 1, none⟩ = some (.int .i64 o2)) :
    Calls Try.prog 58 #[.slice (some ⟨g, 0, none⟩) 2 2, .int .i64 o] w fun e w' => e = .returned (.bool (decide (o = o1 ∨ o = o2))) ∧ w = w' := by
  have c1 : Hid (Calls Try.prog 59 #[.slice (some ⟨g, 0, none⟩) 2 2, .int .i64 o] w fun e w' => e = .returned (.int .i64 (if o = o1 then 0 else if o = o2 then 1 else -1)) ∧ w = w') := index_two o1 o2 o g w h1 h2
  clear h1 h2
  by_cases e1 : o = o1
  · have hd : Hid (decide (o = o1 ∨ o = o2) = true) := Lib.hid (decide_eq_true (.inl e1))
    rw [if_pos e1] at c1
    clear e1
    go_enter Try.func58, Try.ntmps58
    go_wp2_with fail
    refine Calls.mono c1.out ?_
    rintro e w' ⟨rfl, rfl⟩
    go_wp2_with fail
    go_ret
    exact ⟨by rw [hd.out]; rfl, rfl⟩
  · rw [if_neg e1] at c1
    by_cases e2 : o = o2
    · have hd : Hid (decide (o = o1 ∨ o = o2) = true) := Lib.hid (decide_eq_true (.inr e2))
      rw [if_pos e2] at c1
      clear e1 e2
      go_enter Try.func58, Try.ntmps58
      go_wp2_with fail
      refine Calls.mono c1.out ?_
      rintro e w' ⟨rfl, rfl⟩
      go_wp2_with fail
      go_ret
      exact ⟨by rw [hd.out]; rfl, rfl⟩
    · have hd : Hid (decide (o = o1 ∨ o = o2) = false) := Lib.hid (decide_eq_false (by omega))
      rw [if_neg e2] at c1
      clear e1 e2
      go_enter Try.func58, Try.ntmps58
      go_wp2_with fail
      refine Calls.mono c1.out ?_
      rintro e w' ⟨rfl, rfl⟩
      go_wp2_with fail
      go_ret
      exact ⟨by rw [hd.out]; rfl, rfl⟩

def IsOwnC (n : Nat) (xs : List DInstr) (w : World) (e : Ending) (w' : World) : Prop := ∃ A c, e = .returned (.slice A n c) ∧ w'.ownsRow w.heap.size 49 2 (.slice A n c) n (xs.flatMap cellsI) ∧ Below w.heap.size w w'
theorem cloneI_fin {w w3 : World} {n : Nat} {l : List Value} {v' : Value}
    (hown : w3.ownsRow w.heap.size 49 2 v' (0 + n) ((#[] : Array Value).toList ++ l)) (hgrow : (w.alloc (.cells #[] 49)).grownBy w3 (Value.slice (some ⟨w.heap.size, 0, none⟩) 0 0).ownBlock) :
    ∃ A c, v' = .slice A n c ∧ w3.ownsRow w.heap.size 49 2 (.slice A n c) n l ∧ Below w.heap.size w w3 := by
  rw [Nat.zero_add] at hown
  obtain ⟨A', c', hv, _, hat⟩ := own_form hown
  rw [hv] at hown
  exact ⟨A', c', hv, by simpa using hown, Below.grown ((Below.refl _ _).alloc (Nat.le_refl _) _) hgrow (by simp) (fun j hj => by simp [Value.ownBlock] at hj; omega)⟩
set_option maxRecDepth 100000 in
set_option maxHeartbeats 400000 in
theorem cloneI_any (A : Option Addr) (n c : Nat) (xs : List DInstr) (w : World) (h : SlC w w.heap.size A n c xs) (hn : n ≤ 1000) :
    Calls Try.prog 57 #[.slice A n c] w (IsOwnC n xs w) := by
  obtain ⟨i0, hi, hz0, hz1, hz2⟩ := info_parts info_instr
  have hnil := fun w => Lib.run_eql_slice_nil (P := Try.prog) w 23 49 A n c 0 0 Try.underlying23
  cases A with
  | none =>
    have hn0 := SlR.none_ h
    subst hn0
    have he := SlR.empty h
    subst he
    clear h
    go_enter Try.func57, Try.ntmps57
    go_wp2
    go_ret
    exact ⟨none, 0, rfl, World.ownsRow_nil _ _ _ _, Below.refl _ _⟩
  | some ad =>
    have hsrc := SlR.src (f := cellsI) (fun _ => rfl) h
    clear h
    have hone : ∀ u ∈ xs.flatMap cellsI, u.oneCell' = true := by
      intro u hu
      obtain ⟨x, _, hx⟩ := List.mem_flatMap.1 hu
      simp [cellsI] at hx
      rcases hx with rfl | rfl <;> rfl
    have hsrc1 : SrcCells (w.alloc (.cells #[] 49)) (some ad) n 2 (xs.flatMap cellsI) := hsrc.keep fun a j u ha hu => (World.cell?_alloc_lt _ _ _ (World.block_lt_of_cell? _ _ hu)).trans hu
    have HO := Lib.hid hone
    clear hsrc hone
    go_enter Try.func57, Try.ntmps57
    go_wp2_with (first
      | (at_builtin; go_must (refine wpList_append_src _ rfl _ _ 23 rfl w.heap.size 49 i0 (.agg #[.int .i64 0, .int .i64 0]) 2 16 Try.underlying23 hi hz0 hz1 hz2 rfl (by decide) _ _ _ rfl (World.ownsRow_lit w #[] 0 (Nat.le_refl _) (by unfold maxLen; omega) rfl) (some ad) n c (xs.flatMap cellsI) rfl hsrc1 HO.out (by unfold maxLen; omega) (by omega) (by simp) ?_)
         intro v' w3 hown' hgrow3 hat3
         have X := Lib.hid (cloneI_fin hown' hgrow3)
         clear hown' hgrow3 hat3))
    go_ret
    obtain ⟨A', c', rfl, h1, h2⟩ := X.out
    exact ⟨A', c', rfl, h1, h2⟩
end Go.Proofs.Ythfdmpcnebjkjaa
