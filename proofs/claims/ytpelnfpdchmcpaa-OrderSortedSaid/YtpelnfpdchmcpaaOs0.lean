/-
  Circles, of one thing that leads nowhere: what stands on the walk; a thing met.
-/
import Derived.Test.YtpelnfpdchmcpaaMtN
import Derived.Test.YtpelnfpdchmcpaaApp
import Derived.Test.YtpelnfpdchmcpaaKp
import Derived.BigRegion
import Derived.Deep.Cut
namespace Go.Proofs.Ytpelnfpdchmcpaa
open Go.RowKit
set_option linter.unusedSimpArgs false
set_option linter.unusedVariables false
structure Cells (W : World) (b : Nat) (cs : List Value) : Prop where
  at_ : ∀ q v, cs[q]? = some v → W.cell? ⟨b, q, none⟩ = some v
  fz : ∀ q, q < cs.length → W.frozen? ⟨b, q, none⟩ = false
  lt : b < W.heap.size
theorem Cells.kp {S : Nat → Prop} {W W' : World} {b : Nat} {cs : List Value} (h : Cells W b cs) (hk : Kp S W W') (hS : ¬ S b) : Cells W' b cs :=
  ⟨fun q v hq => hk.cellv (h.at_ q v hq) hS, fun q hq => (hk.frozen (p := ⟨b, q, none⟩) h.lt hS).trans (h.fz q hq), by have := hk.size; have := h.lt; omega⟩
theorem Cells.put {W : World} {b : Nat} {cs : List Value} (h : Cells W b cs) (q : Nat) (hq : q < cs.length) (v : Value) : Cells (W.setCell ⟨b, q, none⟩ v) b (cs.set q v) := by
  refine ⟨fun p u hp => ?_, fun p hp => (World.frozen?_setCell _ _ _ _).trans (h.fz p (by simpa using hp)), by simpa [World.setCell] using h.lt⟩
  by_cases e : p = q
  · subst e
    rw [List.getElem?_set_self hq] at hp
    injection hp with hp
    subst hp
    exact World.cell?_setCell_same' _ _ _ (by rw [h.at_ p cs[p] (List.getElem?_eq_getElem hq)]; rfl)
  · rw [List.getElem?_set_ne (fun h => e h.symm)] at hp
    rw [World.cell?_setCell_other _ _ _ _ (by simp; try omega)]
    exact h.at_ p u hp
theorem Cells.new (W : World) (cs : List Value) (t : TypeId) : Cells (W.alloc (.cells cs.toArray t)) W.heap.size cs :=
  ⟨fun q v hq => (new_cells (w := W) (cs := cs.toArray) (t := t) (Below.refl _ _) q v ((List.getElem?_toArray).trans hq)).1, fun q hq => (new_cells (w := W) (cs := cs.toArray) (t := t) (Below.refl _ _) q cs[q] ((List.getElem?_toArray).trans (List.getElem?_eq_getElem hq))).2, by simp⟩
theorem kp_set (W : World) (b q : Nat) (v : Value) : Kp (fun j => j = b) W (W.setCell ⟨b, q, none⟩ v) := Kp.setCell (S := fun j => j = b) (Kp.refl _ W) (p := ⟨b, q, none⟩) (fun _ => rfl) _
theorem Cells.far {W : World} {b : Nat} {cs : List Value} (h : Cells W b cs) {g q : Nat} (hg : ¬ b = g) (v : Value) : Cells (W.setCell ⟨g, q, none⟩ v) b cs := h.kp (kp_set W g q v) hg
theorem Cells.on {W W' : World} {b : Nat} {cs : List Value} (h : Cells W b cs) (hb : Below W.heap.size W W') : Cells W' b cs := h.kp ((Kp.refl (fun _ => False) W).ofBelow hb) id
theorem Cells.own {W : World} {base g k c : Nat} {e : TypeId} {sz : Nat} {xs : List Value} (h : W.ownsRow base e sz (.slice (some ⟨g, 0, none⟩) k c) k xs) : Cells W g xs :=
  ⟨fun q v hq => by rw [h.cellAt q (by have := (List.getElem?_eq_some_iff.1 hq).1; have := h.1; omega)]; exact hq, fun q _ => h.frozenAt q, (h.lt g rfl).2⟩
/-- The walk over one thing that leads nowhere. -/
structure WS (b q s l h : Nat) (wk hd : Value) (ck sv lv hv : Int) (W : World) : Prop where
  qc : Cells W q [.slice (some ⟨b, 0, none⟩) 1 1, wk, .slice (some ⟨s, 0, none⟩) 1 1, .slice (some ⟨l, 0, none⟩) 1 1, hd, .slice (some ⟨h, 0, none⟩) 1 1, .int .i64 ck]
  sc : Cells W s [.int .i64 sv]
  lc : Cells W l [.int .i64 lv]
  hc : Cells W h [.int .i64 hv]
  bc : Cells W b [.slice none 0 0]
  n1 : ¬ q = s
  n2 : ¬ q = l
  n3 : ¬ q = h
  n4 : ¬ s = l
  n5 : ¬ s = h
  n6 : ¬ l = h
  n7 : ¬ b = q
  n8 : ¬ b = s
  n9 : ¬ b = l
  n0 : ¬ b = h
theorem WS.kp {S : Nat → Prop} {b q s l h : Nat} {wk hd : Value} {ck sv lv hv : Int} {W W' : World} (H : WS b q s l h wk hd ck sv lv hv W) (hk : Kp S W W') (hS : ∀ j, S j → j ≠ b ∧ j ≠ q ∧ j ≠ s ∧ j ≠ l ∧ j ≠ h) : WS b q s l h wk hd ck sv lv hv W' :=
  ⟨H.qc.kp hk (fun e => (hS _ e).2.1 rfl), H.sc.kp hk (fun e => (hS _ e).2.2.1 rfl), H.lc.kp hk (fun e => (hS _ e).2.2.2.1 rfl), H.hc.kp hk (fun e => (hS _ e).2.2.2.2 rfl), H.bc.kp hk (fun e => (hS _ e).1 rfl), H.n1, H.n2, H.n3, H.n4, H.n5, H.n6, H.n7, H.n8, H.n9, H.n0⟩
theorem WS.on {b q s l h : Nat} {wk hd : Value} {ck sv lv hv : Int} {W W' : World} (H : WS b q s l h wk hd ck sv lv hv W) (hb : Below W.heap.size W W') : WS b q s l h wk hd ck sv lv hv W' := H.kp ((Kp.refl (fun _ => False) W).ofBelow hb) fun _ h => h.elim
theorem WS.setWk {b q s l h : Nat} {wk hd : Value} {ck sv lv hv : Int} {W : World} (H : WS b q s l h wk hd ck sv lv hv W) (v : Value) : WS b q s l h v hd ck sv lv hv (W.setCell ⟨q, 1, none⟩ v) :=
  ⟨H.qc.put 1 (by simp) v, H.sc.far (Ne.symm H.n1) v, H.lc.far (Ne.symm H.n2) v, H.hc.far (Ne.symm H.n3) v, H.bc.far H.n7 v, H.n1, H.n2, H.n3, H.n4, H.n5, H.n6, H.n7, H.n8, H.n9, H.n0⟩
theorem WS.setHd {b q s l h : Nat} {wk hd : Value} {ck sv lv hv : Int} {W : World} (H : WS b q s l h wk hd ck sv lv hv W) (v : Value) : WS b q s l h wk v ck sv lv hv (W.setCell ⟨q, 4, none⟩ v) :=
  ⟨H.qc.put 4 (by simp) v, H.sc.far (Ne.symm H.n1) v, H.lc.far (Ne.symm H.n2) v, H.hc.far (Ne.symm H.n3) v, H.bc.far H.n7 v, H.n1, H.n2, H.n3, H.n4, H.n5, H.n6, H.n7, H.n8, H.n9, H.n0⟩
theorem WS.setCk {b q s l h : Nat} {wk hd : Value} {ck sv lv hv : Int} {W : World} (H : WS b q s l h wk hd ck sv lv hv W) (v : Int) : WS b q s l h wk hd v sv lv hv (W.setCell ⟨q, 6, none⟩ (.int .i64 v)) :=
  ⟨H.qc.put 6 (by simp) (.int .i64 v), H.sc.far (Ne.symm H.n1) _, H.lc.far (Ne.symm H.n2) _, H.hc.far (Ne.symm H.n3) _, H.bc.far H.n7 _, H.n1, H.n2, H.n3, H.n4, H.n5, H.n6, H.n7, H.n8, H.n9, H.n0⟩
theorem WS.setS {b q s l h : Nat} {wk hd : Value} {ck sv lv hv : Int} {W : World} (H : WS b q s l h wk hd ck sv lv hv W) (v : Int) : WS b q s l h wk hd ck v lv hv (W.setCell ⟨s, 0, none⟩ (.int .i64 v)) :=
  ⟨H.qc.far H.n1 _, H.sc.put 0 (by simp) _, H.lc.far (Ne.symm H.n4) _, H.hc.far (Ne.symm H.n5) _, H.bc.far H.n8 _, H.n1, H.n2, H.n3, H.n4, H.n5, H.n6, H.n7, H.n8, H.n9, H.n0⟩
theorem WS.setL {b q s l h : Nat} {wk hd : Value} {ck sv lv hv : Int} {W : World} (H : WS b q s l h wk hd ck sv lv hv W) (v : Int) : WS b q s l h wk hd ck sv v hv (W.setCell ⟨l, 0, none⟩ (.int .i64 v)) :=
  ⟨H.qc.far H.n2 _, H.sc.far H.n4 _, H.lc.put 0 (by simp) _, H.hc.far (Ne.symm H.n6) _, H.bc.far H.n9 _, H.n1, H.n2, H.n3, H.n4, H.n5, H.n6, H.n7, H.n8, H.n9, H.n0⟩
theorem WS.setH {b q s l h : Nat} {wk hd : Value} {ck sv lv hv : Int} {W : World} (H : WS b q s l h wk hd ck sv lv hv W) (v : Int) : WS b q s l h wk hd ck sv lv v (W.setCell ⟨h, 0, none⟩ (.int .i64 v)) :=
  ⟨H.qc.far H.n3 _, H.sc.far H.n5 _, H.lc.far H.n6 _, H.hc.put 0 (by simp) _, H.bc.far H.n0 _, H.n1, H.n2, H.n3, H.n4, H.n5, H.n6, H.n7, H.n8, H.n9, H.n0⟩
theorem info_int : (Try.prog.info? 3).map (fun i => (i.zero, i.size, i.bytes)) = some (some (.int .i64 0), 1, 8) := by kernel_rfl
theorem info_spot : (Try.prog.info? 75).map (fun i => (i.zero, i.size, i.bytes)) = some (some (.agg #[.int .i64 0, .int .i64 0]), 2, 16) := by kernel_rfl
theorem row_src (w : World) (cs : Array Value) (t : TypeId) (sz : Nat) (h : cs.toList.length = 1 * sz) : SrcCells (w.alloc (.cells cs t)) (some ⟨w.heap.size, 0, none⟩) 1 sz cs.toList :=
  own_src (World.ownsRow_lit (base := w.heap.size) (e := t) (size := sz) w cs 1 (Nat.le_refl _) (by unfold maxLen; omega) (by simpa using h))

def IsMet (B b q s l h : Nat) (W : World) (e : Ending) (W' : World) : Prop := (∃ v, e = .returned v) ∧ ∃ u v cu cv, WS b q s l h (.slice (some ⟨u, 0, none⟩) 1 cu) (.slice (some ⟨v, 0, none⟩) 1 cv) 1 1 1 (-1) W' ∧ Cells W' u [.int .i64 0, .int .i64 0] ∧ Cells W' v [.int .i64 0] ∧ W.heap.size ≤ u ∧ W.heap.size ≤ v ∧ u ≠ v ∧ Below B W W'
set_option maxRecDepth 100000 in
set_option maxHeartbeats 4000000 in
theorem meet_one (B b q s l h : Nat) (W : World) (H0 : WS b q s l h (.slice none 0 0) (.slice none 0 0) 0 0 0 (-1) W) (hB : B ≤ q ∧ B ≤ s ∧ B ≤ l ∧ B ≤ h ∧ B ≤ W.heap.size) :
    Calls Try.prog 33 #[.pointer (some ⟨q, 0, none⟩), .int .i64 0] W (IsMet B b q s l h W) := by
  obtain ⟨i0, hi, hz0, hz1, hz2⟩ := info_parts info_int
  obtain ⟨j0, hj, hy0, hy1, hy2⟩ := info_parts info_spot
  have H := Lib.hid H0
  have HB := Lib.hid hB
  clear H0 hB
  have c0 := H.out.qc.at_ 0 _ rfl
  have c1 := H.out.qc.at_ 1 _ rfl
  have c2 := H.out.qc.at_ 2 _ rfl
  have c3 := H.out.qc.at_ 3 _ rfl
  have c4 := H.out.qc.at_ 4 _ rfl
  have c5 := H.out.qc.at_ 5 _ rfl
  have c6 := H.out.qc.at_ 6 _ rfl
  have f1 := H.out.qc.fz 1 (by simp)
  have f4 := H.out.qc.fz 4 (by simp)
  have f6 := H.out.qc.fz 6 (by simp)
  have s0 := H.out.sc.at_ 0 _ rfl
  have l0 := H.out.lc.at_ 0 _ rfl
  have h0 := H.out.hc.at_ 0 _ rfl
  have sf := H.out.sc.fz 0 (by simp)
  have lf := H.out.lc.fz 0 (by simp)
  have hf := H.out.hc.fz 0 (by simp)
  have b0 := H.out.bc.at_ 0 _ rfl
  have n1 := H.out.n1
  have n2 := H.out.n2
  have n3 := H.out.n3
  have n4 := H.out.n4
  have n5 := H.out.n5
  have n6 := H.out.n6
  have n7 := H.out.n7
  have n8 := H.out.n8
  have n9 := H.out.n9
  have n0 := H.out.n0
  have m1 : ¬ s = q := fun e => n1 e.symm
  have m2 : ¬ l = q := fun e => n2 e.symm
  have m3 : ¬ h = q := fun e => n3 e.symm
  have m4 : ¬ l = s := fun e => n4 e.symm
  have m5 : ¬ h = s := fun e => n5 e.symm
  have m6 : ¬ h = l := fun e => n6 e.symm
  have m7 : ¬ q = b := fun e => n7 e.symm
  have m8 : ¬ s = b := fun e => n8 e.symm
  have m9 : ¬ l = b := fun e => n9 e.symm
  have m0 : ¬ h = b := fun e => n0 e.symm
  go_enter Try.func33, Try.ntmps33
  go_wp2_with fail
  go_region
  obtain ⟨W1, hW1⟩ : ∃ X, (((W.setCell ⟨q, 6, none⟩ (.int .i64 1)).setCell ⟨s, 0, none⟩ (.int .i64 1)).setCell ⟨l, 0, none⟩ (.int .i64 1)).drew = X := ⟨_, rfl⟩
  have H1 : Hid (WS b q s l h (.slice none 0 0) (.slice none 0 0) 1 1 1 (-1) W1) := Lib.hid (by rw [← hW1]; exact (((H.out.setCk 1).setS 1).setL 1).kp (Kp.refl (fun _ => False) _).drew fun _ h => h.elim)
  have G1 : Hid (Kp (fun j => j = q ∨ j = s ∨ j = l) W W1) := Lib.hid (by
    rw [← hW1]
    exact (((kp_set W q 6 _).mono fun _ _ h => .inl h).trans (((kp_set _ s 0 _).mono fun _ _ h => .inr (.inl h)).trans ((kp_set _ l 0 _).mono fun _ _ h => .inr (.inr h)))).drew)
  have HSZ : Hid (W1.heap.size = W.heap.size) := Lib.hid (by rw [← hW1]; simp [World.setCell])
  rw [hW1]
  clear c0 c1 c2 c3 c4 c5 c6 f1 f4 f6 s0 l0 h0 sf lf hf b0
  clear hW1
  have c0 := H1.out.qc.at_ 0 _ rfl
  have c1 := H1.out.qc.at_ 1 _ rfl
  have c2 := H1.out.qc.at_ 2 _ rfl
  have c3 := H1.out.qc.at_ 3 _ rfl
  have c4 := H1.out.qc.at_ 4 _ rfl
  have c5 := H1.out.qc.at_ 5 _ rfl
  have c6 := H1.out.qc.at_ 6 _ rfl
  have f1 := H1.out.qc.fz 1 (by simp)
  have f4 := H1.out.qc.fz 4 (by simp)
  have f6 := H1.out.qc.fz 6 (by simp)
  have s0 := H1.out.sc.at_ 0 _ rfl
  have l0 := H1.out.lc.at_ 0 _ rfl
  have h0 := H1.out.hc.at_ 0 _ rfl
  have sf := H1.out.sc.fz 0 (by simp)
  have lf := H1.out.lc.fz 0 (by simp)
  have hf := H1.out.hc.fz 0 (by simp)
  have b0 := H1.out.bc.at_ 0 _ rfl
  have hsrc := Lib.hid (row_src W1 #[.int .i64 0] 3 1 rfl)
  go_upto_region 3 with (first
    | (at_builtin; go_must (refine wpList_append_src _ rfl _ _ 26 rfl W1.heap.size 3 i0 (.int .i64 0) 1 8 Try.underlying26 hi hz0 hz1 hz2 rfl (by decide) (.slice none 0 0) 0 [] rfl ⟨rfl, .inl ⟨rfl, rfl⟩⟩ (some ⟨W1.heap.size, 0, none⟩) 1 1 [.int .i64 0] rfl hsrc.out (fun u hu => by simp at hu; subst hu; rfl) (by unfold maxLen; omega) (by omega) (by simp) ?_)
       intro v' w3 hown' hgrow3 hat3
       have X : Hid (∃ v cv, v' = .slice (some ⟨v, 0, none⟩) 1 cv ∧ W1.heap.size ≤ v ∧ Cells w3 v [.int .i64 0] ∧ Kp (fun _ => False) W1 w3) := Lib.hid (by
         obtain ⟨A', c', rfl, h1, h2⟩ := own_form hown'
         cases A' with
         | none => exact absurd (h1 rfl) (by omega)
         | some ad =>
           obtain ⟨g, rfl, hg, _⟩ := h2 ad rfl
           exact ⟨g, c', rfl, hg, Cells.own hown', ((Kp.refl (fun _ => False) W1).alloc _).ofGrown hgrow3 fun j hj _ => by simp [Value.ownBlock] at hj⟩)
       obtain ⟨v, cv, rfl, hv1, XC, XK⟩ := X.out
       have HV := Lib.hid XC
       have H3 := Lib.hid (H1.out.kp XK fun _ h => h.elim)
       have GK := Lib.hid XK
       clear X XC XK hown' hgrow3 hat3
       clear c0 c1 c2 c3 c4 c5 c6 f1 f4 f6 s0 l0 h0 sf lf hf b0
       have c0 := H3.out.qc.at_ 0 _ rfl
       have c1 := H3.out.qc.at_ 1 _ rfl
       have c2 := H3.out.qc.at_ 2 _ rfl
       have c3 := H3.out.qc.at_ 3 _ rfl
       have c4 := H3.out.qc.at_ 4 _ rfl
       have c5 := H3.out.qc.at_ 5 _ rfl
       have c6 := H3.out.qc.at_ 6 _ rfl
       have f1 := H3.out.qc.fz 1 (by simp)
       have f4 := H3.out.qc.fz 4 (by simp)
       have f6 := H3.out.qc.fz 6 (by simp)
       have s0 := H3.out.sc.at_ 0 _ rfl
       have l0 := H3.out.lc.at_ 0 _ rfl
       have h0 := H3.out.hc.at_ 0 _ rfl
       have sf := H3.out.sc.fz 0 (by simp)
       have lf := H3.out.lc.fz 0 (by simp)
       have hf := H3.out.hc.fz 0 (by simp)
       have b0 := H3.out.bc.at_ 0 _ rfl)
    | fail)
  have HM := Lib.hid H3.out
  obtain ⟨w4, hw4⟩ : ∃ X, w3.setCell ⟨q, 4, none⟩ (.slice (some ⟨v, 0, none⟩) 1 cv) = X := ⟨_, rfl⟩
  have H4 : Hid (WS b q s l h (.slice none 0 0) (.slice (some ⟨v, 0, none⟩) 1 cv) 1 1 1 (-1) w4) := Lib.hid (by rw [← hw4]; exact H3.out.setHd _)
  have G4 : Hid (Kp (fun j => j = q) w3 w4) := Lib.hid (by rw [← hw4]; exact kp_set w3 q 4 _)
  rw [hw4]
  clear c0 c1 c2 c3 c4 c5 c6 f1 f4 f6 s0 l0 h0 sf lf hf b0
  clear hw4 hsrc
  have c0 := H4.out.qc.at_ 0 _ rfl
  have c1 := H4.out.qc.at_ 1 _ rfl
  have c2 := H4.out.qc.at_ 2 _ rfl
  have c3 := H4.out.qc.at_ 3 _ rfl
  have c4 := H4.out.qc.at_ 4 _ rfl
  have c5 := H4.out.qc.at_ 5 _ rfl
  have c6 := H4.out.qc.at_ 6 _ rfl
  have f1 := H4.out.qc.fz 1 (by simp)
  have f4 := H4.out.qc.fz 4 (by simp)
  have f6 := H4.out.qc.fz 6 (by simp)
  have s0 := H4.out.sc.at_ 0 _ rfl
  have l0 := H4.out.lc.at_ 0 _ rfl
  have h0 := H4.out.hc.at_ 0 _ rfl
  have sf := H4.out.sc.fz 0 (by simp)
  have lf := H4.out.lc.fz 0 (by simp)
  have hf := H4.out.hc.fz 0 (by simp)
  have b0 := H4.out.bc.at_ 0 _ rfl
  have hsrc := Lib.hid (row_src w4 #[.int .i64 0, .int .i64 0] 75 2 rfl)
  go_wp2_with (first
    | (at_builtin; go_must (refine wpList_append_src _ rfl _ _ 66 rfl w4.heap.size 75 j0 (.agg #[.int .i64 0, .int .i64 0]) 2 16 Try.underlying66 hj hy0 hy1 hy2 rfl (by decide) (.slice none 0 0) 0 [] rfl ⟨rfl, .inl ⟨rfl, rfl⟩⟩ (some ⟨w4.heap.size, 0, none⟩) 1 1 [.int .i64 0, .int .i64 0] rfl hsrc.out (fun u hu => by simp at hu; subst hu; rfl) (by unfold maxLen; omega) (by omega) (by simp) ?_)
       intro v' w5 hown' hgrow5 hat5
       have X : Hid (∃ u cu, v' = .slice (some ⟨u, 0, none⟩) 1 cu ∧ w4.heap.size ≤ u ∧ Cells w5 u [.int .i64 0, .int .i64 0] ∧ Kp (fun _ => False) w4 w5) := Lib.hid (by
         obtain ⟨A', c', rfl, h1, h2⟩ := own_form hown'
         cases A' with
         | none => exact absurd (h1 rfl) (by omega)
         | some ad =>
           obtain ⟨g, rfl, hg, _⟩ := h2 ad rfl
           exact ⟨g, c', rfl, hg, Cells.own hown', ((Kp.refl (fun _ => False) w4).alloc _).ofGrown hgrow5 fun j hj _ => by simp [Value.ownBlock] at hj⟩)
       obtain ⟨u, cu, rfl, hu1, XC, XK⟩ := X.out
       have HU := Lib.hid XC
       have H5 := Lib.hid (H4.out.kp XK fun _ h => h.elim)
       have GK5 := Lib.hid XK
       clear X XC XK hown' hgrow5 hat5
       clear c0 c1 c2 c3 c4 c5 c6 f1 f4 f6 s0 l0 h0 sf lf hf b0
       have c0 := H5.out.qc.at_ 0 _ rfl
       have c1 := H5.out.qc.at_ 1 _ rfl
       have c2 := H5.out.qc.at_ 2 _ rfl
       have c3 := H5.out.qc.at_ 3 _ rfl
       have c4 := H5.out.qc.at_ 4 _ rfl
       have c5 := H5.out.qc.at_ 5 _ rfl
       have c6 := H5.out.qc.at_ 6 _ rfl
       have f1 := H5.out.qc.fz 1 (by simp)
       have f4 := H5.out.qc.fz 4 (by simp)
       have f6 := H5.out.qc.fz 6 (by simp)
       have s0 := H5.out.sc.at_ 0 _ rfl
       have l0 := H5.out.lc.at_ 0 _ rfl
       have h0 := H5.out.hc.at_ 0 _ rfl
       have sf := H5.out.sc.fz 0 (by simp)
       have lf := H5.out.lc.fz 0 (by simp)
       have hf := H5.out.hc.fz 0 (by simp)
       have b0 := H5.out.bc.at_ 0 _ rfl)
    | fail)
  go_end0
  have hqv : q ≠ v := by have := H.out.qc.lt; have := HSZ.out; omega
  have hq1 := H.out.qc.lt
  have hs1 := HSZ.out
  have h34 := G4.out.size
  have h13 := GK.out.size
  have hvl := HV.out.lt
  refine ⟨⟨_, rfl⟩, u, v, cu, cv, H5.out.setWk _, HU.out.far (by omega) _, ((HV.out.kp G4.out (fun e => hqv e.symm)).kp GK5.out id).far (fun e => hqv e.symm) _, by omega, by omega, by omega, ?_⟩
  have hBB := HB.out
  have k1 := G1.out.below (B := B) (by omega) (fun j hj => by rcases hj with rfl | rfl | rfl <;> omega)
  have k2 := k1.trans (GK.out.below (B := B) (by omega) fun _ h => h.elim)
  have k3 := k2.trans (G4.out.below (B := B) (by omega) fun j hj => by have hj' : j = q := hj; omega)
  have k4 := k3.trans (GK5.out.below (B := B) (by omega) fun _ h => h.elim)
  exact k4.trans ((kp_set _ q 1 _).below (by have := GK5.out.size; omega) fun j hj => by have hj' : j = q := hj; omega)

end Go.Proofs.Ytpelnfpdchmcpaa
