/-
  Circles: the walk's memory: seven cells, three rows of numbers, two rows that grow and are cut.
-/
import Derived.Test.YtnfoahcdmaphnaaCel
import Derived.Test.YtnfoahcdmaphnaaTj2
import Derived.BigRegion
import Derived.BigQuiet
import Derived.Deep.Cut
import Derived.Deep.DeepCutAuto
import Derived.ScopeJumps
import Derived.WalkMore
namespace Go.Proofs.Ytnfoahcdmaphnaa
open Go.RowKit
set_option linter.unusedSimpArgs false
set_option linter.unusedVariables false
/-- A row of rows of numbers. -/
abbrev GrW (w : World) (B : Nat) (A : Option Addr) (n c : Nat) (g : Gr) : Prop := SlR 1 24 (RSl 1 8 (RI .i64)) w B A n c g
theorem stable_row : Stable (RSl 1 8 (RI .i64)) := by
  intro w w' B cs x h hk
  obtain ⟨A, n, c, e, q⟩ := h
  exact ⟨A, n, c, e, SlR.keep (stable_rc _) q hk⟩
theorem GrW.keep {w w' : World} {B : Nat} {A : Option Addr} {n c : Nat} {g : Gr} (h : GrW w B A n c g) (hb : Below B w w') : GrW w' B A n c g := SlR.keep stable_row h fun p hp => hb.cell hp
theorem GrW.row {w : World} {B : Nat} {A : Option Addr} {n c : Nat} {g : Gr} (h : GrW w B A n c g) {i : Nat} (hi : i < n) :
    ∃ b off Ai ni ci, A = some ⟨b, off, none⟩ ∧ b < B ∧ w.cell? ⟨b, off + i, none⟩ = some (.slice Ai ni ci) ∧ SlI w B Ai ni ci (rowG g i) := by
  obtain ⟨b, off, x, cs, hA, hb, hx, hl, hc, Ai, ni, ci, e, q⟩ := SlR.at_ h hi
  subst e
  refine ⟨b, off, Ai, ni, ci, hA, hb, by simpa using hc 0 _ rfl, ?_⟩
  unfold rowG
  rw [hx]
  exact q
/-- The numbers of a function as cells. -/
def arrC (n : Nat) (f : Nat → Int) : List Value := (List.range n).map fun i => Value.int .i64 (f i)
theorem arrC_len (n : Nat) (f : Nat → Int) : (arrC n f).length = n := by simp [arrC]
theorem arrC_at {n i : Nat} (f : Nat → Int) (hi : i < n) : (arrC n f)[i]? = some (.int .i64 (f i)) := by
  simp [arrC, hi]
theorem arrC_set {n i : Nat} (f : Nat → Int) (v : Int) : (arrC n f).set i (.int .i64 v) = arrC n (upd f i v) := by
  apply List.ext_getElem?
  intro j
  by_cases hj : j < n
  · rw [arrC_at _ hj]
    by_cases e : j = i
    · subst e
      rw [List.getElem?_set_self (by rw [arrC_len]; exact hj), upd_same]
    · rw [List.getElem?_set_ne (fun h => e h.symm), arrC_at _ hj, upd_other _ _ e]
  · rw [List.getElem?_eq_none (by simp [arrC_len]; omega), List.getElem?_eq_none (by simp [arrC_len]; omega)]
theorem arrC_congr {n : Nat} {f f' : Nat → Int} (h : ∀ i, i < n → f i = f' i) : arrC n f = arrC n f' := by
  unfold arrC
  apply List.map_congr_left
  intro i hi
  rw [h i (List.mem_range.1 hi)]
theorem upd_cast (f : Nat → Nat) (i v : Nat) : (fun j => ((upd f i v j : Nat) : Int)) = upd (fun j => ((f j : Nat) : Int)) i (v : Int) := by
  funext j
  by_cases e : j = i
  · subst e; simp [upd_same]
  · simp [upd_other _ _ e]
def cellsSp (p : Nat × Nat) : List Value := [.int .i64 (p.1 : Int), .int .i64 (p.2 : Int)]
def rowSp (l : List (Nat × Nat)) : List Value := l.flatMap cellsSp
def rowN (l : List Nat) : List Value := l.map fun i : Nat => Value.int .i64 (i : Int)
structure SC (B B2 q s l h : Nat) (GA : Option Addr) (n gc : Nat) (WA : Option Addr) (wn wc : Nat) (HA : Option Addr) (hn hc : Nat) (walk : List (Nat × Nat)) (seen low : Nat → Nat) (held : List Nat) (home : Nat → Int) (clock : Nat) (W : World) : Prop where
  qc : Cells W q [.slice GA n gc, .slice WA wn wc, .slice (some ⟨s, 0, none⟩) n n, .slice (some ⟨l, 0, none⟩) n n, .slice HA hn hc, .slice (some ⟨h, 0, none⟩) n n, .int .i64 (clock : Int)]
  sc : Cells W s (arrC n fun i => (seen i : Int))
  lc : Cells W l (arrC n fun i => (low i : Int))
  hcc : Cells W h (arrC n home)
  wo : W.ownsRow B2 91 2 (.slice WA wn wc) wn (rowSp walk)
  ho : W.ownsRow B2 3 1 (.slice HA hn hc) hn (rowN held)
  ap : ∀ k, (Value.slice WA wn wc).ownBlock = some k → (Value.slice HA hn hc).ownBlock ≠ some k
  lo : B ≤ q ∧ B ≤ s ∧ B ≤ l ∧ B ≤ h ∧ B ≤ B2
  hi : q < B2 ∧ s < B2 ∧ l < B2 ∧ h < B2
  ne : q ≠ s ∧ q ≠ l ∧ q ≠ h ∧ s ≠ l ∧ s ≠ h ∧ l ≠ h
section
variable {B B2 q s l h : Nat} {GA : Option Addr} {n gc : Nat} {WA : Option Addr} {wn wc : Nat} {HA : Option Addr} {hn hc : Nat} {walk : List (Nat × Nat)} {seen low : Nat → Nat} {held : List Nat} {home : Nat → Int} {clock : Nat} {W W' : World}
theorem SC.kp (H : SC B B2 q s l h GA n gc WA wn wc HA hn hc walk seen low held home clock W) (hk : Kp (fun _ => False) W W') : SC B B2 q s l h GA n gc WA wn wc HA hn hc walk seen low held home clock W' :=
  ⟨H.qc.kp hk id, H.sc.kp hk id, H.lc.kp hk id, H.hcc.kp hk id, hk.own H.wo (fun _ _ h => h), hk.own H.ho (fun _ _ h => h), H.ap, H.lo, H.hi, H.ne⟩
theorem SC.far (H : SC B B2 q s l h GA n gc WA wn wc HA hn hc walk seen low held home clock W) {b j : Nat} (hb : b < B2) (v : Value) : (W.setCell ⟨b, j, none⟩ v).ownsRow B2 91 2 (.slice WA wn wc) wn (rowSp walk) ∧ (W.setCell ⟨b, j, none⟩ v).ownsRow B2 3 1 (.slice HA hn hc) hn (rowN held) :=
  ⟨(kp_set W b j v).own H.wo (fun k hk e => by have := (H.wo.lt k hk).1; omega), (kp_set W b j v).own H.ho (fun k hk e => by have := (H.ho.lt k hk).1; omega)⟩
theorem SC.setCk (H : SC B B2 q s l h GA n gc WA wn wc HA hn hc walk seen low held home clock W) (c' : Nat) (z : Int) (hz : z = (c' : Int)) : SC B B2 q s l h GA n gc WA wn wc HA hn hc walk seen low held home c' (W.setCell ⟨q, 6, none⟩ (.int .i64 z)) := by
  subst hz
  obtain ⟨n1, n2, n3, n4, n5, n6⟩ := H.ne
  exact ⟨H.qc.put 6 (by simp) _, H.sc.far (Ne.symm n1) _, H.lc.far (Ne.symm n2) _, H.hcc.far (Ne.symm n3) _, (H.far H.hi.1 _).1, (H.far H.hi.1 _).2, H.ap, H.lo, H.hi, H.ne⟩
theorem SC.setSeen (H : SC B B2 q s l h GA n gc WA wn wc HA hn hc walk seen low held home clock W) {i : Nat} (hi : i < n) (c' : Nat) (z : Int) (hz : z = (c' : Int)) : SC B B2 q s l h GA n gc WA wn wc HA hn hc walk (upd seen i c') low held home clock (W.setCell ⟨s, i, none⟩ (.int .i64 z)) := by
  subst hz
  obtain ⟨n1, n2, n3, n4, n5, n6⟩ := H.ne
  have h1 := H.sc.put i (by rw [arrC_len]; exact hi) (.int .i64 (c' : Int))
  rw [arrC_set, ← upd_cast] at h1
  exact ⟨H.qc.far n1 _, h1, H.lc.far (Ne.symm n4) _, H.hcc.far (Ne.symm n5) _, (H.far H.hi.2.1 _).1, (H.far H.hi.2.1 _).2, H.ap, H.lo, H.hi, H.ne⟩
theorem SC.setLow (H : SC B B2 q s l h GA n gc WA wn wc HA hn hc walk seen low held home clock W) {i : Nat} (hi : i < n) (c' : Nat) (z : Int) (hz : z = (c' : Int)) : SC B B2 q s l h GA n gc WA wn wc HA hn hc walk seen (upd low i c') held home clock (W.setCell ⟨l, i, none⟩ (.int .i64 z)) := by
  subst hz
  obtain ⟨n1, n2, n3, n4, n5, n6⟩ := H.ne
  have h1 := H.lc.put i (by rw [arrC_len]; exact hi) (.int .i64 (c' : Int))
  rw [arrC_set, ← upd_cast] at h1
  exact ⟨H.qc.far n2 _, H.sc.far n4 _, h1, H.hcc.far (Ne.symm n6) _, (H.far H.hi.2.2.1 _).1, (H.far H.hi.2.2.1 _).2, H.ap, H.lo, H.hi, H.ne⟩
theorem SC.setHome (H : SC B B2 q s l h GA n gc WA wn wc HA hn hc walk seen low held home clock W) {i : Nat} (hi : i < n) (z : Int) : SC B B2 q s l h GA n gc WA wn wc HA hn hc walk seen low held (upd home i z) clock (W.setCell ⟨h, i, none⟩ (.int .i64 z)) := by
  obtain ⟨n1, n2, n3, n4, n5, n6⟩ := H.ne
  have h1 := H.hcc.put i (by rw [arrC_len]; exact hi) (.int .i64 z)
  rw [arrC_set] at h1
  exact ⟨H.qc.far n3 _, H.sc.far n5 _, H.lc.far n6 _, h1, (H.far H.hi.2.2.2 _).1, (H.far H.hi.2.2.2 _).2, H.ap, H.lo, H.hi, H.ne⟩
/-- The held row has turned elsewhere, and its cell is written. -/
theorem SC.setHd (H : SC B B2 q s l h GA n gc WA wn wc HA hn hc walk seen low held home clock W) (hk : Kp (fun k => (Value.slice HA hn hc).ownBlock = some k) W W') {HA' : Option Addr} {hn' hc' : Nat} {held' : List Nat}
    (ho : W'.ownsRow B2 3 1 (.slice HA' hn' hc') hn' (rowN held')) (hap : ∀ k, (Value.slice HA' hn' hc').ownBlock = some k → (Value.slice HA hn hc).ownBlock = some k ∨ W.heap.size ≤ k) :
    SC B B2 q s l h GA n gc WA wn wc HA' hn' hc' walk seen low held' home clock (W'.setCell ⟨q, 4, none⟩ (.slice HA' hn' hc')) := by
  obtain ⟨n1, n2, n3, n4, n5, n6⟩ := H.ne
  obtain ⟨i1, i2, i3, i4⟩ := H.hi
  have no : ∀ b, b < B2 → ¬ (Value.slice HA hn hc).ownBlock = some b := fun b hb e => by have := (H.ho.lt b e).1; omega
  have hw : W'.ownsRow B2 91 2 (.slice WA wn wc) wn (rowSp walk) := hk.own H.wo (fun k hk' => H.ap k hk')
  exact ⟨(H.qc.kp hk (no q i1)).put 4 (by simp) _, (H.sc.kp hk (no s i2)).far (Ne.symm n1) _, (H.lc.kp hk (no l i3)).far (Ne.symm n2) _, (H.hcc.kp hk (no h i4)).far (Ne.symm n3) _,
    (kp_set W' q 4 _).own hw (fun k hk e => by have := (hw.lt k hk).1; omega), (kp_set W' q 4 _).own ho (fun k hk e => by have := (ho.lt k hk).1; omega), fun k hk' e => by
      rcases hap k e with h1 | h1
      · exact H.ap k hk' h1
      · have := (H.wo.lt k hk').2
        omega, H.lo, H.hi, H.ne⟩
theorem SC.setWk (H : SC B B2 q s l h GA n gc WA wn wc HA hn hc walk seen low held home clock W) (hk : Kp (fun k => (Value.slice WA wn wc).ownBlock = some k) W W') {WA' : Option Addr} {wn' wc' : Nat} {walk' : List (Nat × Nat)}
    (ho : W'.ownsRow B2 91 2 (.slice WA' wn' wc') wn' (rowSp walk')) (hap : ∀ k, (Value.slice WA' wn' wc').ownBlock = some k → (Value.slice WA wn wc).ownBlock = some k ∨ W.heap.size ≤ k) :
    SC B B2 q s l h GA n gc WA' wn' wc' HA hn hc walk' seen low held home clock (W'.setCell ⟨q, 1, none⟩ (.slice WA' wn' wc')) := by
  obtain ⟨n1, n2, n3, n4, n5, n6⟩ := H.ne
  obtain ⟨i1, i2, i3, i4⟩ := H.hi
  have no : ∀ b, b < B2 → ¬ (Value.slice WA wn wc).ownBlock = some b := fun b hb e => by have := (H.wo.lt b e).1; omega
  have hw : W'.ownsRow B2 3 1 (.slice HA hn hc) hn (rowN held) := hk.own H.ho (fun k hk' e => H.ap k e hk')
  exact ⟨(H.qc.kp hk (no q i1)).put 1 (by simp) _, (H.sc.kp hk (no s i2)).far (Ne.symm n1) _, (H.lc.kp hk (no l i3)).far (Ne.symm n2) _, (H.hcc.kp hk (no h i4)).far (Ne.symm n3) _,
    (kp_set W' q 1 _).own ho (fun k hk e => by have := (ho.lt k hk).1; omega), (kp_set W' q 1 _).own hw (fun k hk e => by have := (hw.lt k hk).1; omega), fun k hk' e => by
      rcases hap k hk' with h1 | h1
      · exact H.ap k h1 e
      · have := (H.ho.lt k e).2
        omega, H.lo, H.hi, H.ne⟩
/-- The last of the walk is told how far it has gone. -/
theorem rowSp_set {init : List (Nat × Nat)} {x k k' : Nat} : (rowSp (init ++ [(x, k)])).set (init.length * 2 + 1) (.int .i64 (k' : Int)) = rowSp (init ++ [(x, k')]) := by
  unfold rowSp
  rw [List.flatMap_append, List.flatMap_append]
  have hl : (init.flatMap cellsSp).length = init.length * 2 := by rw [flatMap_len cellsSp (sz := 2) (fun _ => rfl)]
  rw [List.set_append, if_neg (by omega), hl]
  simp [cellsSp]
theorem SC.setNext {init : List (Nat × Nat)} {x k : Nat} {r : Nat} (H : SC B B2 q s l h GA n gc (some ⟨r, 0, none⟩) wn wc HA hn hc (init ++ [(x, k)]) seen low held home clock W) (k' : Nat) (z : Int) (hz : z = (k' : Int)) :
    SC B B2 q s l h GA n gc (some ⟨r, 0, none⟩) wn wc HA hn hc (init ++ [(x, k')]) seen low held home clock (W.setCell ⟨r, init.length * 2 + 1, none⟩ (.int .i64 z)) := by
  subst hz
  obtain ⟨i1, i2, i3, i4⟩ := H.hi
  have hr := (H.wo.lt r rfl).1
  have h1 := (H.wo.stored (init.length * 2 + 1) (.int .i64 (k' : Int))).1
  rw [rowSp_set] at h1
  exact ⟨H.qc.far (by omega) _, H.sc.far (by omega) _, H.lc.far (by omega) _, H.hcc.far (by omega) _, h1, (kp_set W r _ _).own H.ho (fun k hk e => by
    have e' : k = r := e
    subst e'
    exact H.ap k rfl hk), H.ap, H.lo, H.hi, H.ne⟩
theorem SC.len (H : SC B B2 q s l h GA n gc WA wn wc HA hn hc walk seen low held home clock W) : walk.length = wn ∧ held.length = hn := by
  have h1 := H.wo.1
  have h2 := H.ho.1
  unfold rowSp at h1
  rw [flatMap_len cellsSp (sz := 2) (fun _ => rfl)] at h1
  unfold rowN at h2
  rw [List.length_map] at h2
  omega
end
theorem info_spot : (Try.prog.info? 91).map (fun i => (i.zero, i.size, i.bytes)) = some (some (.agg #[.int .i64 0, .int .i64 0]), 2, 16) := by kernel_rfl
end Go.Proofs.Ytnfoahcdmaphnaa
