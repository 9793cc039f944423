import Derived.Test.YtobmjnmcjddhcaaGreatRg26
set_option linter.unusedSimpArgs false
set_option linter.unusedVariables false
namespace Go.Proofs.YtobmjnmcjddhcaaGreat
section
set_option maxRecDepth 100000
set_option maxHeartbeats 2000000
namespace Bm
open Go.RowKit
def lastB (xs : List DBlame) : Option DBlame := xs[xs.length - 1]?
def openM (xs : List DBlame) : Bool := match lastB xs with | some x => !x.rc | none => false
def recM (xs : List DBlame) : List DBlame := match lastB xs with | some x => if x.rc then xs else xs.set (xs.length - 1) { x with rc := true } | none => xs
def kindM (xs : List DBlame) : Int := match lastB xs with | some x => if x.rc then 0 else x.k | none => 0
def numM (xs : List DBlame) : Int := match lastB xs with | some x => if x.rc then 0 else x.n | none => 0
theorem recM_len (xs : List DBlame) : (recM xs).length = xs.length := by
 unfold recM
 split
 ·split
  ·rfl
  ·simp
 ·rfl
theorem open_any (B : Nat) (A : Option Addr) (n c : Nat) (xs : List DBlame) (w : World) (h : SlC w B A n c xs) (hn : n ≤ 3000) :
  Calls Tryz.prog 101 #[.slice A n c] w fun e w' => e = .returned (.bool (openM xs)) ∧ w = w' := by
 have hl := h.1
 rcases Nat.eq_zero_or_pos n with h0 | h0
 ·subst h0
  have : xs = [] := List.eq_nil_of_length_eq_zero hl
  subst this
  clear h
  go_in
  go_wp2
  go_ret
  exact ⟨rfl, rfl⟩
 ·obtain ⟨b, off, x, A0, n0, c0, rfl, hb, hx, q0, q1, q2, q3, _, _, _⟩ := SlR.cell4 h (show n - 1 < n by omega)
  have e : openM xs = !x.rc := by unfold openM lastB; rw [hl, hx]
  rw [e]
  obtain ⟨r, hr⟩ : ∃ r, x.rc = r := ⟨_, rfl⟩
  rw [hr] at q2 ⊢
  obtain ⟨k, rfl⟩ : ∃ k, n = k + 1 := ⟨n - 1, by omega⟩
  rw [Nat.add_sub_cancel] at q2
  have hpos : (0 : Int) < ((k + 1 : Nat) : Int) := by omega
  clear h hx q0 q1 q3 e hr hl
  go_in
  go_wp2
  go_ret
  exact ⟨rfl, rfl⟩
theorem rec_stepL {w : World} {base g k : Nat} {cells : List Value} {xs : List DBlame} {x : DBlame} (hown : w.ownsRow base 135 4 (.slice (some ⟨g, 0, none⟩) (k + 1) (k + 1)) (k + 1) cells) (hf : FilledL w g cells xs (k + 1)) (hl : xs.length = k + 1) (hx : xs[k]? = some x) (hm : k + 1 ≤ 3000) :
  (w.setCell ⟨g, k * 4 + 2, none⟩ (.bool true)).ownsRow base 135 4 (.slice (some ⟨g, 0, none⟩) (k + 1) (k + 1)) (k + 1) (cells.set (k * 4 + 2) (.bool true)) ∧ FilledL (w.setCell ⟨g, k * 4 + 2, none⟩ (.bool true)) g (cells.set (k * 4 + 2) (.bool true)) (xs.set k { x with rc := true }) (k + 1) := by
 have hown1 := (hown.stored (k * 4 + 2) (.bool true)).1
 have hcl := hown.1
 refine ⟨hown1, fun i y hi hy => ?_⟩
 have hfar : ∀ q : Addr, g < q.block → q.block < w.heap.size → (w.setCell ⟨g, k * 4 + 2, none⟩ (.bool true)).cell? q = w.cell? q := fun q hq _ => World.cell?_setCell_far _ _ _ _ (by show g ≠ q.block; omega)
 by_cases hik : i = k
 ·subst hik
  rw [List.getElem?_set_self (by omega)] at hy
  injection hy with hy
  subst hy
  obtain ⟨A, m, c, h⟩ := hf i x hi hx
  refine ⟨A, m, c, ?_, ?_, ?_, ?_, h.tr.keepAt (fun b => g < b) h.far hfar (by simp), h.far, h.ok0, h.ok1⟩
  ·rw [List.getElem?_set_ne (by omega)]; exact h.h0
  ·rw [List.getElem?_set_ne (by omega)]; exact h.h1
  ·rw [List.getElem?_set_self (by omega)]
  ·rw [List.getElem?_set_ne (by omega)]; exact h.h3
 ·rw [List.getElem?_set_ne (by omega)] at hy
  obtain ⟨A, m, c, h⟩ := hf i y hi hy
  exact ⟨A, m, c, h.keep (fun j hj => by rw [List.getElem?_set_ne (by omega)]) hfar (by simp)⟩
def OwC (w0 : Nat) (w : World) (A : Option Addr) (n c : Nat) (xs : List DBlame) : Prop := ∃ cells, w.ownsRow w0 135 4 (.slice A n c) n cells ∧ xs.length = n ∧ ∀ i x, xs[i]? = some x → ∃ A m c, cells[i * 4]? = some (.int .i64 x.k) ∧ cells[i * 4 + 1]? = some (.int .i64 x.n) ∧ cells[i * 4 + 2]? = some (.bool x.rc) ∧ cells[i * 4 + 3]? = some (.slice A m c) ∧ SlE w w.heap.size A m c x.tr ∧ ∀ ad, A = some ad → w0 ≤ ad.block
theorem owc_of {w0 : Nat} {w : World} {g n : Nat} {cells : List Value} {xs : List DBlame} (hown : w.ownsRow w0 135 4 (.slice (some ⟨g, 0, none⟩) n n) n cells) (hl : xs.length = n) (hf : FilledL w g cells xs n) : OwC w0 w (some ⟨g, 0, none⟩) n n xs :=
 ⟨cells, hown, hl, fun i x hi => by
  obtain ⟨A, m, c, h⟩ := hf i x (by have := (List.getElem?_eq_some_iff.1 hi).1; omega) hi
  exact ⟨A, m, c, h.h0, h.h1, h.h2, h.h3, h.tr, fun ad had => by have := h.far ad had; have h9 : w0 ≤ g := (hown.lt _ rfl).1; omega⟩⟩
theorem owc_on {w0 : Nat} {w w' : World} {A : Option Addr} {n c : Nat} {xs : List DBlame} (h : OwC w0 w A n c xs) (hb : Below w.heap.size w w') : OwC w0 w' A n c xs := by
 obtain ⟨cells, h1, h2, h3⟩ := h
 exact ⟨cells, own_keep h1 hb, h2, fun i x hi => by
  obtain ⟨A, m, c, a0, a1, a2, a3, a4, a5⟩ := h3 i x hi
  exact ⟨A, m, c, a0, a1, a2, a3, (a4.keep hb).up hb.size, a5⟩⟩
def IsRec (n : Nat) (xs : List DBlame) (w : World) (e : Ending) (w' : World) : Prop := ∃ A c, e = .returned (.tuple #[.slice A n c, .int .i64 (kindM xs), .int .i64 (numM xs)]) ∧ OwC w.heap.size w' A n c (recM xs) ∧ Below w.heap.size w w'
theorem recover_any (A : Option Addr) (n c : Nat) (xs : List DBlame) (w : World) (h : SlC w w.heap.size A n c xs) (hn : n ≤ 3000) :
  Calls Tryz.prog 181 #[.slice A n c] w (IsRec n xs w) := by
 have hl := h.1
 have c1 : Hid (Calls Tryz.prog 77 #[.slice A n c] w (IsChainL n xs w)) := copyL_any A n c xs w h hn
 have c2 : ∀ (B : Nat) (A : Option Addr) (c : Nat) (W : World), SlC W B A n c xs → Hid (Calls Tryz.prog 101 #[.slice A n c] W fun e w' => e = .returned (.bool (openM xs)) ∧ W = w') := fun B A c W hs => open_any B A n c xs W hs hn
 clear h
 rcases Bool.eq_false_or_eq_true (openM xs) with ho | ho
 ·obtain ⟨x, hx, hr⟩ : ∃ x, lastB xs = some x ∧ x.rc = false := by
   unfold openM at ho
   split at ho
   ·rename_i x hx; exact ⟨x, hx, by simpa using ho⟩
   ·cases ho
  have hlt : xs.length - 1 < xs.length := (List.getElem?_eq_some_iff.1 hx).1
  obtain ⟨k, rfl⟩ : ∃ k, n = k + 1 := ⟨n - 1, by omega⟩
  have hxk : xs[k]? = some x := by unfold lastB at hx; rw [hl, Nat.add_sub_cancel] at hx; exact hx
  have e1 : kindM xs = x.k := by unfold kindM; rw [hx]; simp [hr]
  have e2 : numM xs = x.n := by unfold numM; rw [hx]; simp [hr]
  have e3 : recM xs = xs.set k { x with rc := true } := by unfold recM; rw [hx, hl, Nat.add_sub_cancel]; simp [hr]
  rw [ho] at c2
  unfold IsRec
  rw [e1, e2, e3]
  have HX := Hd hxk
  have HL := Hd hl
  clear e1 e2 e3 hx hr hxk ho hlt hl
  go_in
  go_wp2_with fail
  refine Calls.mono c1.out ?_
  rintro e w1 ⟨g, cells, rfl, hown, hf, hbw⟩
  go_wp2_with fail
  refine Calls.mono (c2 _ _ _ _ (filledL_sl hown hf HL.out (by unfold maxLen; omega) (by unfold reachBytes; omega))).out ?_
  rintro e w2 ⟨rfl, rfl⟩
  obtain ⟨A', m', c', hat⟩ := hf k x (by omega) HX.out
  have hlen := hown.1
  have q0 : w1.cell? ⟨g, k * 4, none⟩ = some (.int .i64 x.k) := (hown.cellAt _ (by omega)).trans hat.h0
  have q1 : w1.cell? ⟨g, k * 4 + 1, none⟩ = some (.int .i64 x.n) := (hown.cellAt _ (by omega)).trans hat.h1
  have q2 : w1.cell? ⟨g, k * 4 + 2, none⟩ = some (.bool x.rc) := (hown.cellAt _ (by omega)).trans hat.h2
  have f2 := hown.frozenAt (k * 4 + 2)
  have hst := rec_stepL hown hf HL.out HX.out hn
  have X := Hd (owc_of hst.1 (by rw [List.length_set]; exact HL.out) hst.2)
  clear hst
  have HB : Hid (Below w.heap.size w (w1.setCell ⟨g, k * 4 + 2, none⟩ (.bool true))) := below_set hbw (hown.lt _ rfl).1 _
  obtain ⟨x0, hx0⟩ : ∃ z, x.k = z := ⟨_, rfl⟩
  obtain ⟨x1, hx1⟩ : ∃ z, x.n = z := ⟨_, rfl⟩
  rw [hx0] at q0
  rw [hx1] at q1
  have E0 := Hd hx0
  have E1 := Hd hx1
  clear hown hf hbw hat hlen hx0 hx1 c1 c2
  have hpos : (0 : Int) < ((k + 1 : Nat) : Int) := by omega
  go_wp2_with fail
  go_quiet (fail)
  go_wp2
  go_outline
  go_ret3
  refine ⟨_, _, by rw [E0.out, E1.out]; rfl, owc_on X.out (below_drewN' (Below.refl _ _) _), below_drewN' HB.out _⟩
 ·have hz : kindM xs = 0 ∧ numM xs = 0 ∧ recM xs = xs := by
   unfold openM at ho
   unfold kindM numM recM
   split at ho
   ·rename_i x hx
    have hr : x.rc = true := by simpa using ho
    simp [hr]
   ·exact ⟨rfl, rfl, rfl⟩
  rw [ho] at c2
  unfold IsRec
  rw [hz.1, hz.2.1, hz.2.2]
  have HL := Hd hl
  clear hz ho hl
  go_in
  go_wp2_with fail
  refine Calls.mono c1.out ?_
  rintro e w1 ⟨g, cells, rfl, hown, hf, hbw⟩
  have hs := filledL_sl hown hf HL.out (by unfold maxLen; omega) (by unfold reachBytes; omega)
  go_wp2_with fail
  refine Calls.mono (c2 _ _ _ _ hs).out ?_
  rintro e w2 ⟨rfl, rfl⟩
  have X := Hd (owc_of hown HL.out hf)
  clear hs hown hf c1 c2
  go_wp2_with fail
  go_ret3
  exact ⟨_, _, rfl, X.out, hbw⟩
structure AtX (lo : Nat) (w : World) (cells : List Value) (i : Nat) (x : DBlame) (A : Option Addr) (m c : Nat) : Prop where
 h0 : cells[i * 4]? = some (.int .i64 x.k)
 h1 : cells[i * 4 + 1]? = some (.int .i64 x.n)
 h2 : cells[i * 4 + 2]? = some (.bool x.rc)
 h3 : cells[i * 4 + 3]? = some (.slice A m c)
 tr : SlE w w.heap.size A m c x.tr
 far : ∀ ad, A = some ad → lo ≤ ad.block
 ok0 : True
 ok1 : True
def FilX (lo : Nat) (w : World) (cells : List Value) (xs : List DBlame) : Prop := ∀ i x, xs[i]? = some x → ∃ A m c, AtX lo w cells i x A m c
theorem filX_of {lo : Nat} {w : World} {g n : Nat} {cells : List Value} {xs : List DBlame} (hf : FilledL w g cells xs n) (hl : xs.length = n) (hlo : lo ≤ g) : FilX lo w cells xs := fun i x hi => by
 have hlt := (List.getElem?_eq_some_iff.1 hi).1
 obtain ⟨A, m, c, h⟩ := hf i x (by omega) hi
 exact ⟨A, m, c, h.h0, h.h1, h.h2, h.h3, h.tr, fun ad had => by have := h.far ad had; omega, h.ok0, h.ok1⟩
theorem filX_grown {lo : Nat} {w w' : World} {g n : Nat} {cells : List Value} {xs : List DBlame} {row : Option Nat} (hf : FilledL w g cells xs n) (hl : xs.length = n) (hg : w.grownBy w' row) (hr : ∀ k, row = some k → k ≤ g) (hlo : lo ≤ g) : FilX lo w' cells xs := fun i x hi => by
 have hlt := (List.getElem?_eq_some_iff.1 hi).1
 obtain ⟨A, m, c, a⟩ := hf i x (by omega) hi
 exact ⟨A, m, c, a.h0, a.h1, a.h2, a.h3, a.tr.keepAt (fun b => g < b) a.far (fun q hq hlt => World.cell?_of_block (w := w) (hg.block q.block hlt (fun e => by have := hr _ e.symm; omega))) hg.size, fun ad had => by have := a.far ad had; omega, a.ok0, a.ok1⟩
theorem FilX.app {lo : Nat} {w : World} {c1 c2 : List Value} {xs ys : List DBlame} (h1 : FilX lo w c1 xs) (h2 : FilX lo w c2 ys) (hl : c1.length = xs.length * 4) : FilX lo w (c1 ++ c2) (xs ++ ys) := by
 intro i x hi
 by_cases hlt : i < xs.length
 ·rw [List.getElem?_append_left hlt] at hi
  obtain ⟨A, m, c, a⟩ := h1 i x hi
  refine ⟨A, m, c, ?_, ?_, ?_, ?_, a.tr, a.far, a.ok0, a.ok1⟩
  ·rw [List.getElem?_append_left (by omega)]; exact a.h0
  ·rw [List.getElem?_append_left (by omega)]; exact a.h1
  ·rw [List.getElem?_append_left (by omega)]; exact a.h2
  ·rw [List.getElem?_append_left (by omega)]; exact a.h3
 ·rw [List.getElem?_append_right (by omega)] at hi
  obtain ⟨A, m, c, a⟩ := h2 _ x hi
  refine ⟨A, m, c, ?_, ?_, ?_, ?_, a.tr, a.far, a.ok0, a.ok1⟩
  ·rw [List.getElem?_append_right (by omega), show i * 4 - c1.length = (i - xs.length) * 4 by omega]; exact a.h0
  ·rw [List.getElem?_append_right (by omega), show i * 4 + 1 - c1.length = (i - xs.length) * 4 + 1 by omega]; exact a.h1
  ·rw [List.getElem?_append_right (by omega), show i * 4 + 2 - c1.length = (i - xs.length) * 4 + 2 by omega]; exact a.h2
  ·rw [List.getElem?_append_right (by omega), show i * 4 + 3 - c1.length = (i - xs.length) * 4 + 3 by omega]; exact a.h3
theorem filX_one {lo : Nat} {w : World} {cells : List Value} {xs : List DBlame} (h : FilX lo w cells xs) (hl : cells.length = xs.length * 4) : ∀ u ∈ cells, u.oneCell' = true := by
 intro u hu
 obtain ⟨j, hj, rfl⟩ := List.getElem_of_mem hu
 have hi : j / 4 < xs.length := by omega
 obtain ⟨A, m, c, a⟩ := h (j / 4) _ (List.getElem?_eq_getElem hi)
 have e : cells[j]? = some cells[j] := List.getElem?_eq_getElem hj
 have h4 : j % 4 = 0 ∨ j % 4 = 1 ∨ j % 4 = 2 ∨ j % 4 = 3 := by omega
 rcases h4 with h4 | h4 | h4 | h4
 ·have := a.h0; rw [show j / 4 * 4 = j by omega, e] at this; injection this with this; rw [this]; rfl
 ·have := a.h1; rw [show j / 4 * 4 + 1 = j by omega, e] at this; injection this with this; rw [this]; rfl
 ·have := a.h2; rw [show j / 4 * 4 + 2 = j by omega, e] at this; injection this with this; rw [this]; rfl
 ·have := a.h3; rw [show j / 4 * 4 + 3 = j by omega, e] at this; injection this with this; rw [this]; rfl
theorem slc_up {w : World} {B B' : Nat} {A : Option Addr} {n c : Nat} {xs : List DBlame} (h : SlC w B A n c xs) (hB : B ≤ B') : SlC w B' A n c xs := by
 obtain ⟨h1, h2, h3, h4, h5⟩ := h
 refine ⟨h1, h2, h3, h4, fun hn => ?_⟩
 obtain ⟨b, off, hA, hb, hx⟩ := h5 hn
 refine ⟨b, off, hA, by omega, fun i x hi => ?_⟩
 obtain ⟨cs, hl, hc, A0, n0, c0, e, k0, k1, hs⟩ := hx i x hi
 exact ⟨cs, hl, hc, A0, n0, c0, e, k0, k1, SlE.up hs hB⟩
theorem FilledL.keepB {w w' : World} {g n : Nat} {cells : List Value} {xs : List DBlame} (h : FilledL w g cells xs n) (hb : Below w.heap.size w w') : FilledL w' g cells xs n := fun i x hi hx => by
 obtain ⟨A, m, c, a⟩ := h i x hi hx
 exact ⟨A, m, c, a.h0, a.h1, a.h2, a.h3, (a.tr.keep hb).up hb.size, a.far, a.ok0, a.ok1⟩
def IsJoin (xs : List DBlame) (w : World) (e : Ending) (w' : World) : Prop := ∃ A c, e = .returned (.slice A xs.length c) ∧ OwC w.heap.size w' A xs.length c xs ∧ Below w.heap.size w w'
theorem join_fin {w w2 w3 : World} {g1 n1 n2 g2 : Nat} {cells1 cells2 : List Value} {xs ys : List DBlame} {v' : Value} (hx : xs.length = n1) (hy : ys.length = n2) (h1 : n1 ≤ 3000) (h2 : n2 ≤ 3000)
  (hf1 : FilledL w2 g1 cells1 xs n1) (hf2 : FilledL w2 g2 cells2 ys n2) (hg12 : g1 < g2) (hb : Below w.heap.size w w2) (hgw : w.heap.size ≤ g1) (hc1 : cells1.length = n1 * 4)
  (hown : w3.ownsRow w.heap.size 135 4 v' (n1 + n2) (cells1 ++ cells2)) (hgrow : w2.grownBy w3 (Value.slice (some ⟨g1, 0, none⟩) n1 n1).ownBlock) :
  ∃ A c, v' = .slice A (xs ++ ys).length c ∧ OwC w.heap.size w3 A (xs ++ ys).length c (xs ++ ys) ∧ Below w.heap.size w w3 := by
 obtain ⟨A, c, hv, _⟩ := own_form hown
 subst hv
 have hl : (xs ++ ys).length = n1 + n2 := by rw [List.length_append, hx, hy]
 have hf : FilX w.heap.size w3 (cells1 ++ cells2) (xs ++ ys) := FilX.app (filX_grown hf1 hx hgrow (fun k hk => by simp only [Value.ownBlock, Option.some.injEq] at hk; omega) hgw) (filX_grown hf2 hy hgrow (fun k hk => by simp only [Value.ownBlock, Option.some.injEq] at hk; omega) (by omega)) (by omega)
 refine ⟨A, c, by rw [hl], ?_, Below.grown hb hgrow hb.size (fun k hk => by simp only [Value.ownBlock, Option.some.injEq] at hk; omega)⟩
 rw [hl]
 exact ⟨_, hown, hl, fun i x hi => by
  obtain ⟨A, m, c, h⟩ := hf i x hi
  exact ⟨A, m, c, h.h0, h.h1, h.h2, h.h3, h.tr, h.far⟩⟩
theorem join_any (A1 A2 : Option Addr) (n1 n2 c1 c2 : Nat) (xs ys : List DBlame) (w : World) (h1 : SlC w w.heap.size A1 n1 c1 xs) (h2 : SlC w w.heap.size A2 n2 c2 ys) (hn1 : n1 ≤ 3000) (hn2 : n2 ≤ 3000) :
  Calls Tryz.prog 135 #[.slice A1 n1 c1, .slice A2 n2 c2] w (IsJoin (xs ++ ys) w) := by
 obtain ⟨i0, hi, hz0, hz1, hz2⟩ := info_parts info_blame
 have d1 : Hid (Calls Tryz.prog 77 #[.slice A1 n1 c1] w (IsChainL n1 xs w)) := copyL_any A1 n1 c1 xs w h1 (by omega)
 have d2 : ∀ W : World, Below w.heap.size w W → Hid (Calls Tryz.prog 77 #[.slice A2 n2 c2] W (IsChainL n2 ys W)) := fun W hW => copyL_any A2 n2 c2 ys W (slc_up (SlR.below stable_Blame h2 hW) hW.size) (by omega)
 have hx := h1.1
 have hy := h2.1
 clear h1 h2
 have HX := Hd hx
 have HY := Hd hy
 clear hx hy
 go_in
 go_wp2_with fail
 refine Calls.mono d1.out ?_
 rintro e w1 ⟨g1, cells1, rfl, hown1, hf1, hb1⟩
 go_wp2_with fail
 refine Calls.mono (d2 _ hb1).out ?_
 rintro e w2 ⟨g2, cells2, rfl, hown2, hf2, hb2⟩
 have hown1' := own_keep hown1 hb2
 have hf1' := hf1.keepB hb2
 have hg1 := hown1.lt _ rfl
 have hg2 := hown2.lt _ rfl
 have hbw : Below w.heap.size w w2 := bl_trans hb1 hb1.size hb2
 have hsrc : SrcCells w2 (some ⟨g2, 0, none⟩) n2 4 cells2 := own_src hown2
 have hone := filX_one (lo := 0) (filX_of hf2 HY.out (Nat.zero_le _)) (by rw [HY.out]; exact hown2.1)
 have hsz : w.heap.size ≤ w2.heap.size := hbw.size
 have HF1 := Hd hf1'
 have HF2 := Hd hf2
 have HB := Hd hbw
 have hc1 := hown1.1
 have HO := Hd hone
 have HS := Hd hsrc
 have HOW := Hd hown1'
 clear hf1' hf2 hf1 hown1 hown2 hbw hb1 hb2 hone hsrc hown1' d1 d2
 go_wp2_with (first
   | (at_builtin; go_must (refine wpList_append_src _ rfl _ _ 69 rfl w.heap.size 135 i0 (.agg #[.int .i64 0, .int .i64 0, .bool false, .slice none 0 0]) 4 48 Tryz.underlying69 hi hz0 hz1 hz2 rfl (by decide) _ _ _ rfl HOW.out (some ⟨g2, 0, none⟩) n2 n2 cells2 rfl HS.out HO.out (by unfold maxLen; omega) (by omega) hsz ?_)
      intro v' w3 hown' hgrow3 hat3
      have X := Hd (join_fin HX.out HY.out hn1 hn2 HF1.out HF2.out (by omega) HB.out (by omega) hc1 hown' hgrow3)
      clear hown' hgrow3 hat3))
 go_ret
 obtain ⟨A, c, rfl, h1, h2⟩ := X.out
 exact ⟨A, c, rfl, h1, h2⟩
end Bm
end
section
set_option maxRecDepth 100000
set_option maxHeartbeats 4000000
open Go.RowKit
def ImE (τ : Nat → Tag) (w : World) (A : Option Addr) (n : Nat) (l : List (Int × Int)) : Prop := l.length = n ∧ (0 < n → Im τ w A n 2 (rowEn l))
def ChZ (τ : Nat → Tag) (w : World) (A : Option Addr) (n c : Nat) (xs : List Bl) : Prop := n ≤ c ∧ c ≤ maxLen ∧ xs.length = n ∧ ∃ cells, Im τ w A n 4 cells ∧ ∀ i x, xs[i]? = some x → ∃ A' m c', cells[i * 4]? = some (.int .i64 x.k) ∧ cells[i * 4 + 1]? = some (.int .i64 x.n) ∧ cells[i * 4 + 2]? = some (.bool x.rc) ∧ cells[i * 4 + 3]? = some (.slice A' m c') ∧ ImE τ w A' m x.tr ∧ m ≤ c' ∧ c' ≤ maxLen ∧ m * 16 ≤ reachBytes
variable {T : Tag → Prop} {τ τ' : Nat → Tag} {w w' : World} {A : Option Addr} {n c : Nat} {xs : List Bl} {K : RK} {gs : List Nat} {s : Ms} {ys : List Fr}
theorem ChZ.nil : ChZ τ w none 0 0 [] := ⟨Nat.le_refl _, by unfold maxLen; omega, rfl, [], Rdv.nil _ _ _, fun i x h => by cases h⟩
theorem ChZ.tr (h : ChZ τ w A n c xs) (k : Tr T τ w τ' w') (hT : ¬ T (0, 0)) : ChZ τ' w' A n c xs := by
 obtain ⟨h1, h2, h3, cells, h4, h5⟩ := h
 exact ⟨h1, h2, h3, cells, h4.tr k hT, fun i x hi => by
  obtain ⟨A', m, c', a0, a1, a2, a3, a4, a5⟩ := h5 i x hi
  exact ⟨A', m, c', a0, a1, a2, a3, ⟨a4.1, fun hm => (a4.2 hm).tr k hT⟩, a5⟩⟩
theorem en_len (l : List (Int × Int)) : (rowEn l).length = l.length * 2 := flatMap_len enC (fun _ => rfl) l
theorem ImE.slE {l : List (Int × Int)} (h' : ImE τ w A n l) (h1 : n ≤ c) (h2 : c ≤ maxLen) (h3 : n * 16 ≤ reachBytes) : Bm.SlE w w.heap.size A n c l := by
 have hl : l.length = n := h'.1
 refine ⟨hl, h1, h2, h3, fun hn => ?_⟩
 have h := h'.2 hn
 cases A with
 | none => have := h.src.2.1 rfl; omega
 | some ad =>
  obtain ⟨b, off, rfl, hb, hf⟩ := h.at_ _ rfl
  refine ⟨b, off, rfl, hb, fun i x hi => ⟨enC x, rfl, fun j u hj => ?_, rfl⟩⟩
  have hj2 : j < 2 := (List.getElem?_eq_some_iff.1 hj).1
  have := h.src.2.2 _ rfl _ u (flatMap_at enC (fun _ => rfl) l i j x u hj2 hi hj)
  rw [addr_add] at this
  exact this
theorem ChZ.slc (h : ChZ τ w A n c xs) (hn : n ≤ 3000) : Bm.SlC w w.heap.size A n c xs := by
 obtain ⟨h1, h2, h3, cells, h4, h5⟩ := h
 refine ⟨h3, h1, h2, by unfold reachBytes; omega, fun hn => ?_⟩
 cases A with
 | none => have := h4.src.2.1 rfl; omega
 | some ad =>
  obtain ⟨b, off, rfl, hb, hf⟩ := h4.at_ _ rfl
  refine ⟨b, off, rfl, hb, fun i x hi => ?_⟩
  obtain ⟨A', m, c', a0, a1, a2, a3, a4, a5, a6, a7⟩ := h5 i x hi
  refine ⟨[.int .i64 x.k, .int .i64 x.n, .bool x.rc, .slice A' m c'], rfl, fun j u hj => ?_, A', m, c', rfl, trivial, trivial, a4.slE a5 a6 a7⟩
  have hj4 : j < 4 := (List.getElem?_eq_some_iff.1 hj).1
  have key : ∀ u, cells[i * 4 + j]? = some u → w.cell? ⟨b, off + (i * 4 + j), none⟩ = some u := fun u hu => by
   have := h4.src.2.2 _ rfl _ u hu
   rw [addr_add] at this
   exact this
  refine key u ?_
  match j, hj4 with
  | 0, _ => rw [Nat.add_zero, a0]; simpa using hj
  | 1, _ => rw [a1]; simpa using hj
  | 2, _ => rw [a2]; simpa using hj
  | 3, _ => rw [a3]; simpa using hj
theorem im_sle {l : List (Int × Int)} {A : Option Addr} {n c : Nat} (h : Bm.SlE w w.heap.size A n c l) (hz : ∀ ad, A = some ad → τ ad.block = (0, 0)) (h0 : A = none ∨ ∃ b off, A = some ⟨b, off, none⟩ ∧ b < w.heap.size) : Im τ w A n 2 (rowEn l) := by
 refine ⟨⟨by rw [en_len, h.1], fun e => ?_, fun ad e j u hj => ?_⟩, fun ad e => ?_⟩
 ·rcases Nat.eq_zero_or_pos n with hn | hn
  ·exact hn
  ·obtain ⟨b, off, e', _⟩ := h.2.2.2.2 hn
   rw [e] at e'
   cases e'
 ·have hlt := (List.getElem?_eq_some_iff.1 hj).1
  rw [en_len, h.1] at hlt
  obtain ⟨b, off, e', _, hx⟩ := h.2.2.2.2 (by omega)
  rw [e] at e'
  injection e' with e'
  subst e'
  have hi : j / 2 < l.length := by rw [h.1]; omega
  obtain ⟨cs, _, hc, hr⟩ := hx (j / 2) _ (List.getElem?_eq_getElem hi)
  have hcs : cs = enC l[j / 2] := hr
  subst hcs
  have hj2 : (enC l[j / 2])[j % 2]? = some u := by
   have hm : j % 2 < 2 := by omega
   obtain ⟨v, hv⟩ : ∃ v, (enC l[j / 2])[j % 2]? = some v := ⟨_, List.getElem?_eq_getElem (show j % 2 < 2 by omega)⟩
   have := flatMap_at enC (fun _ => rfl) l (j / 2) (j % 2) _ v hm (List.getElem?_eq_getElem hi) hv
   rw [show j / 2 * 2 + j % 2 = j by omega] at this
   rw [hj] at this
   injection this with this
   rw [hv, this]
  have := hc (j % 2) u hj2
  rw [addr_add]
  rwa [show off + (j / 2 * 2 + j % 2) = off + j by omega] at this
 ·rcases h0 with h0 | ⟨b, off, h0, hb⟩
  ·rw [h0] at e; cases e
  ·rw [h0] at e
   injection e with e
   subst e
   exact ⟨b, off, rfl, hb, fun hne => hne (hz _ h0)⟩
theorem ChZ.of {w0 : Nat} (h : Bm.OwC w0 w A n c xs) (hz : ∀ j, w0 ≤ j → τ j = (0, 0)) : ChZ τ w A n c xs := by
 obtain ⟨cells, h1, h2, h3⟩ := h
 have hnc : n ≤ c ∧ c ≤ maxLen := by
  rcases h1.2 with ⟨hv, rfl⟩ | ⟨g, cap, cur, hv, _, _, g3, g4, _⟩
  ·simp only [Value.slice.injEq] at hv
   obtain ⟨_, _, rfl⟩ := hv
   exact ⟨Nat.le_refl _, by unfold maxLen; omega⟩
  ·simp only [Value.slice.injEq, true_and] at hv
   obtain ⟨_, rfl⟩ := hv
   exact ⟨g3, g4⟩
 refine ⟨hnc.1, hnc.2, h2, cells, Rdv.own h1 fun j hj _ hne => hne (hz j hj), fun i x hi => ?_⟩
 obtain ⟨A', m, c', a0, a1, a2, a3, a4, a5⟩ := h3 i x hi
 obtain ⟨k1, k2, k3, k4, k5⟩ := a4
 exact ⟨A', m, c', a0, a1, a2, a3, ⟨k1, fun hm => by
  obtain ⟨b, off, e, hb, hx⟩ := k5 hm
  exact im_sle ⟨k1, k2, k3, k4, k5⟩ (fun ad e => hz _ (a5 ad e)) (.inr ⟨b, off, e, hb⟩)⟩, k2, k3, k4⟩
theorem recM_is (xs : List Bl) : (recM xs).1 = Bm.recM xs ∧ (recM xs).2.1 = Bm.kindM xs ∧ (recM xs).2.2 = Bm.numM xs := by
 unfold recM Bm.recM Bm.kindM Bm.numM Bm.lastB
 rw [List.getLast?_eq_getElem?]
 cases h : xs[xs.length - 1]? with
 | none => exact ⟨rfl, rfl, rfl⟩
 | some b =>
  dsimp only
  have hlt := (List.getElem?_eq_some_iff.1 h).1
  cases hr : b.rc with
  | true => exact ⟨rfl, rfl, rfl⟩
  | false =>
   refine ⟨?_, rfl, rfl⟩
   show xs.dropLast ++ [{ b with rc := true }] = xs.set (xs.length - 1) { b with rc := true }
   apply List.ext_getElem?
   intro i
   rw [List.getElem?_set]
   split
   ·rename_i e
    subst e
    rw [List.getElem?_append_right (by simp), List.length_dropLast, Nat.sub_self]
    rfl
   ·rename_i e
    rcases Nat.lt_or_ge i (xs.length - 1) with hl | hl
    ·rw [List.getElem?_append_left (by simp; omega), List.getElem?_dropLast, if_pos hl]
    ·rw [List.getElem?_eq_none (by simp; omega), List.getElem?_eq_none (by omega)]
theorem openB_is (xs : List Bl) : openB xs = Bm.openM xs := by
 unfold openB Bm.openM Bm.lastB
 rw [List.getLast?_eq_getElem?]
 rfl
theorem zopen (h : ChZ τ w A n c xs) (hn : n ≤ 3000) : Calls Tryz.prog 101 #[.slice A n c] w fun e w' => e = .returned (.bool (openB xs)) ∧ w = w' := by
 rw [openB_is]
 exact Bm.open_any _ A n c xs w (h.slc hn) hn
theorem zrecover (h : ChZ τ w A n c xs) (hz : ∀ j, w.heap.size ≤ j → τ j = (0, 0)) (hn : n ≤ 3000) : Calls Tryz.prog 181 #[.slice A n c] w fun e w' => ∃ A' c', e = .returned (.tuple #[.slice A' n c', .int .i64 (recM xs).2.1, .int .i64 (recM xs).2.2]) ∧ ChZ τ w' A' n c' (recM xs).1 ∧ Below w.heap.size w w' := by
 refine (Bm.recover_any A n c xs w (h.slc hn) hn).mono ?_
 rintro e w' ⟨A', c', rfl, ho, hb⟩
 obtain ⟨r1, r2, r3⟩ := recM_is xs
 exact ⟨A', c', by rw [r2, r3], by rw [r1]; exact ChZ.of ho hz, hb⟩
theorem zjoin {A2 : Option Addr} {n2 c2 : Nat} {ys : List Bl} (h : ChZ τ w A n c xs) (h2 : ChZ τ w A2 n2 c2 ys) (hz : ∀ j, w.heap.size ≤ j → τ j = (0, 0)) (hn : n ≤ 3000) (hn2 : n2 ≤ 3000) : Calls Tryz.prog 135 #[.slice A n c, .slice A2 n2 c2] w fun e w' => ∃ A' c', e = .returned (.slice A' (n + n2) c') ∧ ChZ τ w' A' (n + n2) c' (xs ++ ys) ∧ Below w.heap.size w w' := by
 refine (Bm.join_any A A2 n n2 c c2 xs ys w (h.slc hn) (h2.slc hn2) hn hn2).mono ?_
 rintro e w' ⟨A', c', rfl, ho, hb⟩
 have hl : (xs ++ ys).length = n + n2 := by rw [List.length_append, h.2.2.1, h2.2.2.1]
 rw [hl] at ho ⊢
 exact ⟨A', c', rfl, ChZ.of ho hz, hb⟩
theorem zcopy (h : ChZ τ w A n c xs) (hz : ∀ j, w.heap.size ≤ j → τ j = (0, 0)) (hn : n ≤ 3000) : Calls Tryz.prog 77 #[.slice A n c] w fun e w' => ∃ A', e = .returned (.slice A' n n) ∧ ChZ τ w' A' n n xs ∧ Below w.heap.size w w' := by
 refine (Bm.copyL_any A n c xs w (h.slc hn) hn).mono ?_
 rintro e w' ⟨g, cells, rfl, ho, hf, hb⟩
 exact ⟨_, rfl, ChZ.of (Bm.owc_of ho h.2.2.1 hf) hz, hb⟩
theorem zraise (h : VM K τ w gs s) (hE : Env K τ w) (ht : TBs K τ w gs ys) (hl : ys.length ≤ 90000) (k m : Int) :
  Calls Tryz.prog 168 #[ptrV K.m, .int .i64 k, .int .i64 m] w fun e w' => ∃ A, e = .returned (.slice A 1 1) ∧ ChZ τ w' A 1 1 [⟨k, m, false, traceM K.fs ys⟩] ∧ Below w.heap.size w w' := by
 have cT := Hd (trace_any h hE ht hl)
 have HZ := Hd hE.z
 have HL : Hid (ys.length ≤ 90000) := Hd hl
 obtain ⟨tr, htr⟩ : ∃ tr, traceM K.fs ys = tr := ⟨_, rfl⟩
 have HTL : Hid (tr.length ≤ 90000) := Hd (by rw [← htr]; simpa [traceM] using hl)
 rw [htr] at cT ⊢
 obtain ⟨g, hg⟩ : ∃ g, K.m = g := ⟨_, rfl⟩
 rw [hg] at cT ⊢
 clear h hE ht htr hg hl
 go_in
 go_wp2_with fail
 refine cT.out.mono ?_
 rintro e w2 ⟨A, n, c, rfl, hn, hown, hb2⟩
 have hio : Im τ w2 A n 2 (rowEn tr) := Rdv.own hown fun j hj _ hne => hne (HZ.out j hj)
 have hnc : n ≤ c ∧ c ≤ maxLen := by
  have := (RowF.ofOwn hown)
  exact ⟨this.2.1, this.2.2.1⟩
 have cN := Hd (Bm.new_any k m w2.heap.size A n c tr w2 (ImE.slE ⟨hn, fun _ => hio⟩ hnc.1 hnc.2 (by have := HTL.out; unfold reachBytes; omega)) (Nat.le_refl _))
 have HB2 := Hd hb2
 clear hown hio hnc hb2 hn cT
 go_wp2_with fail
 refine cN.out.mono ?_
 rintro e w3 ⟨A', m', c', rfl, hs, hb3, hat⟩
 have HS := Hd hs
 have HA := Hd hat
 have HB3 : Hid (Below w.heap.size w w3) := Hd (HB2.out.trans (hb3.mono HB2.out.size))
 have HS23 : Hid (w.heap.size ≤ w2.heap.size) := Hd HB2.out.size
 clear hs hat hb3 cN
 go_wp2_with fail
 go_ret
 have hown := World.ownsRow_lit (base := w.heap.size) (e := 135) (size := 4) w3 #[.int .i64 k, .int .i64 m, .bool false, .slice A' m' c'] 1 HB3.out.size (by unfold maxLen; omega) rfl
 refine ⟨_, rfl, ChZ.of (w0 := w.heap.size) ⟨_, hown, rfl, fun i x hi => ?_⟩ HZ.out, HB3.out.alloc HB3.out.size _⟩
 have hi0 : i = 0 := by
  have := (List.getElem?_eq_some_iff.1 hi).1
  simp at this
  omega
 subst hi0
 injection hi with hi
 subst hi
 exact ⟨A', m', c', rfl, rfl, rfl, rfl, (HS.out.keep (bl_one _)).up (bl_one _).size, fun ad e => Nat.le_trans HS23.out (HA.out ad e)⟩
end
end Go.Proofs.YtobmjnmcjddhcaaGreat
