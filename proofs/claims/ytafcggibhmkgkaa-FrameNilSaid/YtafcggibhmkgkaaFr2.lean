/-
  A frame: the types of a function's slots, where it has parameters alone.
-/
import Derived.Test.YtafcggibhmkgkaaFr1
namespace Go.Proofs.Ytafcggibhmkgkaa
open Go.RowKit
set_option linter.unusedSimpArgs false
set_option linter.unusedVariables false
attribute [local go_sem] run_store_cplx
abbrev funV (A : Option Addr) (n c k l : Nat) : Value := .agg #[.string ⟨#[102]⟩, .bool false, .slice none 0 0, .slice A n c, .slice none 0 0, .slice none 0 0, .slice (some ⟨k, 0, none⟩) 1 1, .slice (some ⟨l, 0, none⟩) 1 1, .slice none 0 0, .slice none 0 0, .slice none 0 0]
theorem info_ty : (Try.prog.info? 24).map (fun i => (i.zero, i.size, i.bytes)) = some (some (.int .i64 0), 1, 8) := by kernel_rfl
def iC (x : Int) : List Value := [.int .i64 x]
theorem SlR.rc {w : World} {B : Nat} {A : Option Addr} {n c : Nat} {xs : List Int} (h : SlR 1 8 (RInt .i64) w B A n c xs) : SlR 1 8 (RC iC) w B A n c xs := by
  obtain ⟨h1, h2, h3, h4, h5⟩ := h
  refine ⟨h1, h2, h3, h4, fun hn => ?_⟩
  obtain ⟨b, off, hA, hb, hx⟩ := h5 hn
  refine ⟨b, off, hA, hb, fun i x hi => ?_⟩
  obtain ⟨cs, hl, hc, hr⟩ := hx i x hi
  exact ⟨cs, hl, hc, hr.1⟩
def IsTRow (n : Nat) (cells : List Value) (w : World) (e : Ending) (w' : World) : Prop := ∃ A c, e = .returned (.slice A n c) ∧ w'.ownsRow w.heap.size 24 1 (.slice A n c) n cells ∧ Below w.heap.size w w'
theorem app2 {w w1 w3 : World} {k N c : Nat} {A : Option Addr} {ys : List Value} {v' : Value} (hb : Below w.heap.size w w1) (hown' : w3.ownsRow w.heap.size 24 1 v' N ys) (hgrow : w1.grownBy w3 (Value.slice A k c).ownBlock) (hlt : ∀ j, (Value.slice A k c).ownBlock = some j → w.heap.size ≤ j) :
    ∃ A' c', v' = .slice A' N c' ∧ w3.ownsRow w.heap.size 24 1 (.slice A' N c') N ys ∧ Below w.heap.size w w3 := by
  obtain ⟨A', c', hv, _⟩ := own_form hown'
  subst hv
  exact ⟨A', c', rfl, hown', Below.grown hb hgrow hb.size hlt⟩
set_option maxRecDepth 100000 in
set_option maxHeartbeats 2000000 in
theorem join_any (r : Nat) (A : Option Addr) (n c B : Nat) (xs : List Int) (w : World) (h : SlR 1 8 (RInt .i64) w B A n c xs) (hB : B ≤ w.heap.size) (hn : n ≤ 1000) (h0 : w.cell? ⟨r, 0, none⟩ = some (.slice A n c)) (h1 : w.cell? ⟨r, 1, none⟩ = some (.slice none 0 0)) (h2 : w.cell? ⟨r, 2, none⟩ = some (.slice none 0 0)) : Calls Try.prog 38 #[.slice (some ⟨r, 0, none⟩) 3 3] w (IsTRow n (xs.flatMap iC) w) := by
  obtain ⟨i0, hi, hz0, hz1, hz2⟩ := info_parts info_ty
  have hr0 : r < w.heap.size := World.block_lt_of_cell? _ _ h0
  have S1 := Lib.hid (SlR.src (f := iC) (fun _ => rfl) h.rc)
  have HO1 : Hid (∀ u ∈ xs.flatMap iC, u.oneCell' = true) := Lib.hid (fun u hu => by
    obtain ⟨x, _, hx⟩ := List.mem_flatMap.1 hu
    simp [iC] at hx
    subst hx
    rfl)
  have hlen : Hid ((xs.flatMap iC).length = n) := Lib.hid (by
    have := (SlR.src (f := iC) (fun _ => rfl) h.rc).1
    simpa using this)
  generalize xs.flatMap iC = cells at *
  have HS0 : Hid (∀ w : World, SrcCells w none 0 1 []) := Lib.hid fun w => ⟨rfl, fun _ => rfl, fun ad ha => by cases ha⟩
  have HO0 : Hid (∀ u ∈ ([] : List Value), u.oneCell' = true) := Lib.hid (by simp)
  have HR := Lib.hid hr0
  clear h hB hr0
  go_enter Try.func38, Try.ntmps38
  go_wp2_with fail
  refine wp_loop_rounds 4 ?_
  rw [rounds_succ]
  go_wp2_with (first
    | (at_builtin; go_must (refine wpList_append_src _ rfl _ _ 47 rfl w.heap.size 24 i0 (.int .i64 0) 1 8 Try.underlying47 hi hz0 hz1 hz2 rfl (by decide) _ _ _ rfl (World.ownsRow_nil _ _ _ _) A n c cells rfl S1.out HO1.out (by unfold maxLen; omega) (by omega) (Nat.le_refl _) ?_)
       intro v1 w1 hown1 hgrow1 hat1
       rw [List.nil_append, Nat.zero_add] at hown1
       obtain ⟨A1, c1, rfl, o1, b1⟩ := app2 (Below.refl _ _) hown1 hgrow1 (fun j hj => by cases hj)
       have O1 := Lib.hid o1
       have B1 := Lib.hid b1
       have q1 : w1.cell? ⟨r, 1, none⟩ = some (.slice none 0 0) := (b1.cell HR.out).trans h1
       have q2 : w1.cell? ⟨r, 2, none⟩ = some (.slice none 0 0) := (b1.cell HR.out).trans h2
       clear hown1 hgrow1 hat1 o1 b1))
  rw [rounds_succ]
  have hs1 := B1.out.size
  go_wp2_with (first
    | (at_builtin; go_must (refine wpList_append_src _ rfl _ _ 47 rfl w.heap.size 24 i0 (.int .i64 0) 1 8 Try.underlying47 hi hz0 hz1 hz2 rfl (by decide) _ _ _ rfl O1.out none 0 0 [] rfl (HS0.out _) HO0.out (by unfold maxLen; omega) (by omega) hs1 ?_)
       intro v2 w2 hown2 hgrow2 hat2
       rw [List.append_nil, Nat.add_zero] at hown2
       obtain ⟨A2, c2, rfl, o2, b2⟩ := app2 B1.out hown2 hgrow2 (fun j hj => (O1.out.lt j hj).1)
       have O2 := Lib.hid o2
       have B2 := Lib.hid b2
       have p2 : w2.cell? ⟨r, 2, none⟩ = some (.slice none 0 0) := (b2.cell HR.out).trans h2
       clear hown2 hgrow2 hat2 o2 b2))
  rw [rounds_succ]
  have hs2 := B2.out.size
  go_wp2_with (first
    | (at_builtin; go_must (refine wpList_append_src _ rfl _ _ 47 rfl w.heap.size 24 i0 (.int .i64 0) 1 8 Try.underlying47 hi hz0 hz1 hz2 rfl (by decide) _ _ _ rfl O2.out none 0 0 [] rfl (HS0.out _) HO0.out (by unfold maxLen; omega) (by omega) hs2 ?_)
       intro v3 w3 hown3 hgrow3 hat3
       rw [List.append_nil, Nat.add_zero] at hown3
       obtain ⟨A3, c3, rfl, o3, b3⟩ := app2 B2.out hown3 hgrow3 (fun j hj => (O2.out.lt j hj).1)
       have O3 := Lib.hid o3
       have B3 := Lib.hid b3
       have p3 : w3.cell? ⟨r, 2, none⟩ = some (.slice none 0 0) := (b3.cell HR.out).trans h2
       clear hown3 hgrow3 hat3 o3 b3))
  rw [rounds_succ]
  go_wp2_with fail
  go_ret
  exact ⟨_, _, rfl, O3.out, B3.out⟩
set_option maxRecDepth 100000 in
set_option maxHeartbeats 1000000 in
theorem slots_any (A : Option Addr) (n c B k l : Nat) (xs : List Int) (w : World) (h : SlR 1 8 (RInt .i64) w B A n c xs) (hB : B ≤ w.heap.size) (hn : n ≤ 1000) : Calls Try.prog 31 #[funV A n c k l] w (IsTRow n (xs.flatMap iC) w) := by
  obtain ⟨w1, hw1⟩ : ∃ w1, (w.alloc (.cells #[.string ⟨#[102]⟩, .bool false, .slice none 0 0, .slice A n c, .slice none 0 0, .slice none 0 0, .slice (some ⟨k, 0, none⟩) 1 1, .slice (some ⟨l, 0, none⟩) 1 1, .slice none 0 0, .slice none 0 0, .slice none 0 0] 53)).alloc (.cells #[.slice A n c, .slice none 0 0, .slice none 0 0] 47) = w1 := ⟨_, rfl⟩
  have b1 : Below w.heap.size w w1 := by rw [← hw1]; exact ((Below.refl _ _).alloc (Nat.le_refl _) _).alloc (by simp) _
  have N : ∀ i v, #[Value.slice A n c, .slice none 0 0, .slice none 0 0][i]? = some v → w1.cell? ⟨w.heap.size + 1, i, none⟩ = some v := fun i v hv => by
    rw [← hw1]
    have := (new_cells (w := w.alloc (.cells #[.string ⟨#[102]⟩, .bool false, .slice none 0 0, .slice A n c, .slice none 0 0, .slice none 0 0, .slice (some ⟨k, 0, none⟩) 1 1, .slice (some ⟨l, 0, none⟩) 1 1, .slice none 0 0, .slice none 0 0, .slice none 0 0] 53)) (t := 47) (Below.refl _ _) i v hv).1
    simpa using this
  have cj := join_any (w.heap.size + 1) A n c B xs w1 (SlR.keep (stable_int _) h fun p hp => b1.cell (by omega)) (by have := b1.size; omega) hn (N 0 _ rfl) (N 1 _ rfl) (N 2 _ rfl)
  have C1 := Lib.hid cj
  have HB := Lib.hid b1
  have HE := Lib.hid hw1
  generalize xs.flatMap iC = cells at *
  clear cj N b1 hw1 h hB
  go_enter Try.func31, Try.ntmps31
  go_wp2_with fail
  rw [HE.out]
  refine C1.out.mono ?_
  rintro e w2 ⟨A2, c2, rfl, hown, hb⟩
  have HO : Hid (w2.ownsRow w.heap.size 24 1 (.slice A2 n c2) n cells) := Lib.hid (hown.mono HB.out.size)
  have HB2 := Lib.hid (bl_trans HB.out HB.out.size hb)
  clear hown hb
  go_wp2_with fail
  go_ret
  exact ⟨_, _, rfl, HO.out, HB2.out⟩
end Go.Proofs.Ytafcggibhmkgkaa
