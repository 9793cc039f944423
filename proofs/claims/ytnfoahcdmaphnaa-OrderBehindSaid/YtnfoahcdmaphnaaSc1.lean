/-
  Circles: a thing is met; whether there is one.
-/
import Derived.Test.YtnfoahcdmaphnaaSc0
namespace Go.Proofs.Ytnfoahcdmaphnaa
open Go.RowKit
set_option linter.unusedSimpArgs false
set_option linter.unusedVariables false
set_option maxRecDepth 100000 in
theorem sis_any (GA : Option Addr) (n gc : Nat) (t : Int) (r : Bool) (hr : r = decide (0 ≤ t ∧ t < (n : Int))) (w : World) : Calls Try.prog 27 #[.slice GA n gc, .int .i64 t] w fun e w' => e = .returned (.bool r) ∧ w = w' := by
  by_cases h0 : 0 ≤ t
  · have t0 : decide (t ≥ 0) = true := by simpa using h0
    by_cases h1 : t < (n : Int)
    · have t1 : decide (t < (n : Int)) = true := by simpa using h1
      have HR : Hid (r = true) := Lib.hid (by rw [hr]; simp [h0, h1])
      clear hr
      go_enter Try.func27, Try.ntmps27
      go_wp2_with fail
      go_ret
      exact ⟨by rw [HR.out]; rfl, rfl⟩
    · have t1 : decide (t < (n : Int)) = false := by simpa using h1
      have HR : Hid (r = false) := Lib.hid (by rw [hr]; simp [h1])
      clear hr
      go_enter Try.func27, Try.ntmps27
      go_wp2_with fail
      go_ret
      exact ⟨by rw [HR.out]; rfl, rfl⟩
  · have t0 : decide (t ≥ 0) = false := by simpa using h0
    have HR : Hid (r = false) := Lib.hid (by rw [hr]; simp [h0])
    clear hr
    go_enter Try.func27, Try.ntmps27
    go_wp2_with fail
    go_ret
    exact ⟨by rw [HR.out]; rfl, rfl⟩
theorem two_one (a b : Int) : ∀ u ∈ [Value.int .i64 a, .int .i64 b], u.oneCell' = true := by
  intro u hu
  simp at hu
  rcases hu with rfl | rfl <;> rfl
theorem push_hd {B2 hn hc v : Nat} {HA : Option Addr} {held : List Nat} {W w3 : World} {v' : Value} {o : Obj} (hown' : w3.ownsRow B2 3 1 v' (hn + 1) (rowN held ++ [.int .i64 (v : Int)])) (hgrow : (W.alloc o).grownBy w3 (Value.slice HA hn hc).ownBlock)
    (hat : v'.ownBlock = (Value.slice HA hn hc).ownBlock ∨ v'.ownBlock = some (W.alloc o).heap.size) :
    ∃ A' c', v' = .slice A' (hn + 1) c' ∧ w3.ownsRow B2 3 1 (.slice A' (hn + 1) c') (hn + 1) (rowN (held ++ [v])) ∧ Kp (fun k => (Value.slice HA hn hc).ownBlock = some k) W w3 ∧ ∀ k, (Value.slice A' (hn + 1) c').ownBlock = some k → (Value.slice HA hn hc).ownBlock = some k ∨ W.heap.size ≤ k := by
  have e : rowN held ++ [.int .i64 (v : Int)] = rowN (held ++ [v]) := by simp [rowN]
  rw [e] at hown'
  obtain ⟨A', c', rfl, _⟩ := own_form hown'
  refine ⟨A', c', rfl, hown', ((Kp.refl _ W).alloc o).ofGrown hgrow fun k hk _ => hk, fun k hk => ?_⟩
  rw [hk] at hat
  rcases hat with e | e
  · exact .inl e.symm
  · have := Option.some.inj e
    simp at this
    exact .inr (by omega)
theorem push_wk {B2 wn wc v : Nat} {WA : Option Addr} {walk : List (Nat × Nat)} {W w3 : World} {v' : Value} {o : Obj} (hown' : w3.ownsRow B2 91 2 v' (wn + 1) (rowSp walk ++ [.int .i64 (v : Int), .int .i64 0])) (hgrow : (W.alloc o).grownBy w3 (Value.slice WA wn wc).ownBlock)
    (hat : v'.ownBlock = (Value.slice WA wn wc).ownBlock ∨ v'.ownBlock = some (W.alloc o).heap.size) :
    ∃ A' c', v' = .slice A' (wn + 1) c' ∧ w3.ownsRow B2 91 2 (.slice A' (wn + 1) c') (wn + 1) (rowSp (walk ++ [(v, 0)])) ∧ Kp (fun k => (Value.slice WA wn wc).ownBlock = some k) W w3 ∧ ∀ k, (Value.slice A' (wn + 1) c').ownBlock = some k → (Value.slice WA wn wc).ownBlock = some k ∨ W.heap.size ≤ k := by
  have e : rowSp walk ++ [.int .i64 (v : Int), .int .i64 0] = rowSp (walk ++ [(v, 0)]) := by simp [rowSp, cellsSp]
  rw [e] at hown'
  obtain ⟨A', c', rfl, _⟩ := own_form hown'
  refine ⟨A', c', rfl, hown', ((Kp.refl _ W).alloc o).ofGrown hgrow fun k hk _ => hk, fun k hk => ?_⟩
  rw [hk] at hat
  rcases hat with e | e
  · exact .inl e.symm
  · have := Option.some.inj e
    simp at this
    exact .inr (by omega)
def IsMeet (B B2 q s l h : Nat) (GA : Option Addr) (n gc wn hn : Nat) (walk : List (Nat × Nat)) (seen low : Nat → Nat) (held : List Nat) (home : Nat → Int) (clock v : Nat) (W : World) (e : Ending) (W' : World) : Prop :=
  (∃ r, e = .returned r) ∧ ∃ WA wc HA hc, SC B B2 q s l h GA n gc WA (wn + 1) wc HA (hn + 1) hc (walk ++ [(v, 0)]) (upd seen v (clock + 1)) (upd low v (clock + 1)) (held ++ [v]) home (clock + 1) W' ∧ Below B W W'
set_option maxRecDepth 100000 in
set_option maxHeartbeats 8000000 in
theorem meet_any (B B2 q s l h : Nat) (GA : Option Addr) (n gc : Nat) (WA : Option Addr) (wn wc : Nat) (HA : Option Addr) (hn hc : Nat) (walk : List (Nat × Nat)) (seen low : Nat → Nat) (held : List Nat) (home : Nat → Int) (clock v : Nat) (W : World)
    (H0 : SC B B2 q s l h GA n gc WA wn wc HA hn hc walk seen low held home clock W) (hB2 : B2 ≤ W.heap.size) (hv : v < n) (hw : wn ≤ 50) (hh : hn ≤ 50) (hcl : clock ≤ 50) (hnn : n ≤ 50) :
    Calls Try.prog 53 #[.pointer (some ⟨q, 0, none⟩), .int .i64 (v : Int)] W (IsMeet B B2 q s l h GA n gc wn hn walk seen low held home clock v W) := by
  obtain ⟨i0, hi, hz0, hz1, hz2⟩ := info_parts info_int
  obtain ⟨j0, hj, hy0, hy1, hy2⟩ := info_parts info_spot
  have H := Lib.hid H0
  have HB2 := Lib.hid hB2
  have HV := Lib.hid hv
  have hv0 : (0 : Int) ≤ (v : Int) := by omega
  have hvn : (v : Int) < (n : Int) := by omega
  have hnb : (n : Int) ≤ 50 := by omega
  have hcb : (clock : Int) ≤ 50 := by omega
  have hc0 : (0 : Int) ≤ (clock : Int) := by omega
  clear H0 hB2 hv
  have c0 := H.out.qc.at_ 0 _ rfl
  have c1 := H.out.qc.at_ 1 _ rfl
  have c2 := H.out.qc.at_ 2 _ rfl
  have c3 := H.out.qc.at_ 3 _ rfl
  have c4 := H.out.qc.at_ 4 _ rfl
  have c5 := H.out.qc.at_ 5 _ rfl
  have c6 := H.out.qc.at_ 6 _ rfl
  have f1 := H.out.qc.fz 1 (by simp)
  have f4 := H.out.qc.fz 4 (by simp)
  have f6 := H.out.qc.fz 6 (by simp)
  have s0 : W.cell? ⟨s, v, none⟩ = some (.int .i64 (seen v : Int)) := H.out.sc.at_ _ _ (arrC_at _ HV.out)
  have s0f : W.frozen? ⟨s, v, none⟩ = false := H.out.sc.fz _ (by rw [arrC_len]; exact HV.out)
  have l0 : W.cell? ⟨l, v, none⟩ = some (.int .i64 (low v : Int)) := H.out.lc.at_ _ _ (arrC_at _ HV.out)
  have l0f : W.frozen? ⟨l, v, none⟩ = false := H.out.lc.fz _ (by rw [arrC_len]; exact HV.out)
  obtain ⟨n1, n2, n3, n4, n5, n6⟩ := H.out.ne
  have m1 : ¬ s = q := fun e => n1 e.symm
  have m2 : ¬ l = q := fun e => n2 e.symm
  have m3 : ¬ h = q := fun e => n3 e.symm
  have m4 : ¬ l = s := fun e => n4 e.symm
  have m5 : ¬ h = s := fun e => n5 e.symm
  have m6 : ¬ h = l := fun e => n6 e.symm
  have n1 : ¬ q = s := n1
  have n2 : ¬ q = l := n2
  have n3 : ¬ q = h := n3
  have n4 : ¬ s = l := n4
  have n5 : ¬ s = h := n5
  have n6 : ¬ l = h := n6
  go_enter Try.func53, Try.ntmps53
  go_wp2_with fail
  go_region
  go_simp
  obtain ⟨W1, hW1⟩ : ∃ X, (((W.setCell ⟨q, 6, none⟩ (.int .i64 ((clock : Int) + 1))).setCell ⟨s, v, none⟩ (.int .i64 ((clock : Int) + 1))).setCell ⟨l, v, none⟩ (.int .i64 ((clock : Int) + 1))).drew = X := ⟨_, rfl⟩
  have H1 : Hid (SC B B2 q s l h GA n gc WA wn wc HA hn hc walk (upd seen v (clock + 1)) (upd low v (clock + 1)) held home (clock + 1) W1) := Lib.hid (by
    rw [← hW1]
    exact (((H.out.setCk (clock + 1) _ (by omega)).setSeen HV.out (clock + 1) _ (by omega)).setLow HV.out (clock + 1) _ (by omega)).kp (Kp.refl (fun _ => False) _).drew)
  have G1 : Hid (Below B W W1) := Lib.hid (by
    rw [← hW1]
    have hlo := H.out.lo
    exact ((((Below.refl B W).setCell (p := ⟨q, 6, none⟩) hlo.1 _).setCell (p := ⟨s, v, none⟩) hlo.2.1 _).setCell (p := ⟨l, v, none⟩) hlo.2.2.1 _).drew)
  have HS1 : Hid (B2 ≤ W1.heap.size) := Lib.hid (by rw [← hW1]; simpa [World.setCell] using HB2.out)
  rw [hW1]
  clear c0 c1 c2 c3 c4 c5 c6 f1 f4 f6 s0 s0f l0 l0f hW1
  have c0 := H1.out.qc.at_ 0 _ rfl
  have c1 := H1.out.qc.at_ 1 _ rfl
  have c2 := H1.out.qc.at_ 2 _ rfl
  have c3 := H1.out.qc.at_ 3 _ rfl
  have c4 := H1.out.qc.at_ 4 _ rfl
  have c5 := H1.out.qc.at_ 5 _ rfl
  have c6 := H1.out.qc.at_ 6 _ rfl
  have f1 := H1.out.qc.fz 1 (by simp)
  have f4 := H1.out.qc.fz 4 (by simp)
  have f6 := H1.out.qc.fz 6 (by simp)
  have hsrc := Lib.hid (src_int W1 (v : Int))
  go_upto_region 3 with (first
    | (at_builtin; go_must (refine wpList_append_src _ rfl _ _ 31 rfl B2 3 i0 (.int .i64 0) 1 8 Try.underlying31 hi hz0 hz1 hz2 rfl (by decide) _ _ _ rfl (H1.out.ho.alloc _) (some ⟨W1.heap.size, 0, none⟩) 1 1 [.int .i64 (v : Int)] rfl hsrc.out (one_int (v : Int)) (by unfold maxLen; omega) (by omega) (by have := HS1.out; simp; omega) ?_)
       intro v' w3 hown' hgrow3 hat3
       obtain ⟨A', c', rfl, XO, XK, XA⟩ := push_hd hown' hgrow3 hat3
       have HO := Lib.hid XO
       have HK := Lib.hid XK
       have HAp := Lib.hid XA
       clear XO XK XA hown' hgrow3 hat3
       have hqc := H1.out.qc.kp HK.out (fun e => by have := (H1.out.ho.lt q e).1; have := H1.out.hi.1; omega)
       have c4 := hqc.at_ 4 _ rfl
       have f4 := hqc.fz 4 (by simp)
       clear hqc)
    | fail)
  obtain ⟨w4, hw4⟩ : ∃ X, w3.setCell ⟨q, 4, none⟩ (.slice A' (hn + 1) c') = X := ⟨_, rfl⟩
  have H4 : Hid (SC B B2 q s l h GA n gc WA wn wc A' (hn + 1) c' walk (upd seen v (clock + 1)) (upd low v (clock + 1)) (held ++ [v]) home (clock + 1) w4) := Lib.hid (by
    rw [← hw4]
    exact H1.out.setHd HK.out HO.out HAp.out)
  have G4 : Hid (Below B W w4) := Lib.hid (by
    rw [← hw4]
    have hlo := H1.out.lo
    exact (G1.out.trans (HK.out.below (by have := HS1.out; omega) (fun k hk => by have := (H1.out.ho.lt k hk).1; omega))).setCell (p := ⟨q, 4, none⟩) hlo.1 _)
  have HS4 : Hid (B2 ≤ w4.heap.size) := Lib.hid (by rw [← hw4]; have := HK.out.size; have := HS1.out; simp [World.setCell]; omega)
  rw [hw4]
  clear c0 c1 c2 c3 c4 c5 c6 f1 f4 f6 hw4 hsrc
  have c0 := H4.out.qc.at_ 0 _ rfl
  have c1 := H4.out.qc.at_ 1 _ rfl
  have c2 := H4.out.qc.at_ 2 _ rfl
  have c3 := H4.out.qc.at_ 3 _ rfl
  have c4 := H4.out.qc.at_ 4 _ rfl
  have c5 := H4.out.qc.at_ 5 _ rfl
  have c6 := H4.out.qc.at_ 6 _ rfl
  have f1 := H4.out.qc.fz 1 (by simp)
  have f4 := H4.out.qc.fz 4 (by simp)
  have f6 := H4.out.qc.fz 6 (by simp)
  have hsrc := Lib.hid (row_src w4 #[.int .i64 (v : Int), .int .i64 0] 91 2 rfl)
  go_wp2_with (first
    | (at_builtin; go_must (refine wpList_append_src _ rfl _ _ 71 rfl B2 91 j0 (.agg #[.int .i64 0, .int .i64 0]) 2 16 Try.underlying71 hj hy0 hy1 hy2 rfl (by decide) _ _ _ rfl (H4.out.wo.alloc _) (some ⟨w4.heap.size, 0, none⟩) 1 1 [.int .i64 (v : Int), .int .i64 0] rfl hsrc.out (two_one _ _) (by unfold maxLen; omega) (by omega) (by have := HS4.out; simp; omega) ?_)
       intro v' w5 hown' hgrow5 hat5
       obtain ⟨A5, c5', rfl, XO, XK, XA⟩ := push_wk hown' hgrow5 hat5
       have HO5 := Lib.hid XO
       have HK5 := Lib.hid XK
       have HA5 := Lib.hid XA
       clear XO XK XA hown' hgrow5 hat5
       have hqc := H4.out.qc.kp HK5.out (fun e => by have := (H4.out.wo.lt q e).1; have := H4.out.hi.1; omega)
       have c1 := hqc.at_ 1 _ rfl
       have f1 := hqc.fz 1 (by simp)
       clear hqc)
    | fail)
  go_end0
  refine ⟨⟨_, rfl⟩, A5, c5', A', c', H4.out.setWk HK5.out HO5.out HA5.out, ?_⟩
  have hlo := H4.out.lo
  exact (G4.out.trans (HK5.out.below (by have := HS4.out; omega) (fun k hk => by have := (H4.out.wo.lt k hk).1; omega))).setCell (p := ⟨q, 1, none⟩) hlo.1 _
end Go.Proofs.Ytnfoahcdmaphnaa
