/-
  The walk of EventBegins.
-/
import Derived.Test.YtpladpmkpchndaaEv10
namespace Go.Proofs.Ytpladpmkpchndaa
open Go.RowKit
set_option linter.unusedSimpArgs false
set_option linter.unusedVariables false

theorem SlV.cut {w : World} {B : Nat} {A : Option Addr} {n c j : Nat} {xs : List DEvent} (h : SlV w B A n c xs) (hj : j ≤ n) : SlV w B A j c (xs.take j) := by
  obtain ⟨h1, h2, h3, h4, h5⟩ := h
  refine ⟨by rw [List.length_take]; omega, by omega, h3, by have := Nat.mul_le_mul_right 48 hj; omega, fun h0 => ?_⟩
  obtain ⟨b, off, hA, hb, hx⟩ := h5 (by omega)
  refine ⟨b, off, hA, hb, fun i x hi => hx i x ?_⟩
  rw [List.getElem?_take] at hi
  split at hi
  · exact hi
  · cases hi
set_option maxRecDepth 100000 in
set_option maxHeartbeats 4000000 in
theorem eventBegins_few (A1 A2 : Option Addr) (n1 n2 c1 c2 : Nat) (l m : List DEvent) (n : Int) (w : World) (h1 : SlV w w.heap.size A1 n1 c1 l) (h2 : SlV w w.heap.size A2 n2 c2 m) (hn1 : n1 ≤ 60) (hn2 : n2 ≤ 60) :
    Calls Try.prog 12 #[.slice A1 n1 c1, .slice A2 n2 c2, .int .i64 n] w fun e w' => e = .returned (.bool true) ∧ Below w.heap.size w w' := by
  have cB : ∀ W, Below w.heap.size w W → Hid (Calls Try.prog 61 #[.slice A1 n1 c1, .slice A2 n2 c2] W fun e w' => e = .returned (.bool (begL eqV l m)) ∧ Below W.heap.size W w') := fun W hW => begins_any w.heap.size A1 A2 n1 n2 c1 c2 l m W (h1.keep hW) (h2.keep hW) hW.size
  have cR : ∀ W, Below w.heap.size w W → Hid (Calls Try.prog 62 #[.slice A1 n1 c1, .slice A2 n2 c2] W fun e w' => e = .returned (.bool (begL eqV l m)) ∧ Below W.heap.size W w') := fun W hW => refBegins_any w.heap.size A1 A2 n1 n2 c1 c2 l m W (h1.keep hW) (h2.keep hW) hW.size
  have cT : ∀ (j : Nat) W, j ≤ n1 → Below w.heap.size w W → Hid (Calls Try.prog 61 #[.slice A1 j c1, .slice A1 n1 c1] W fun e w' => e = .returned (.bool true) ∧ Below W.heap.size W w') := fun j W hj hW => by
    have := begins_any w.heap.size A1 A1 j n1 c1 c1 (l.take j) l W ((h1.cut hj).keep hW) (h1.keep hW) hW.size
    rw [begL_take eqV eqV_refl] at this
    exact this
  have cl : ∀ w : World, Hid (Calls Try.prog 58 #[] w fun e w' => e = .returned (.bool true) ∧ Below w.heap.size w w') := fun w => ev_lives w
  have H1 := Lib.hid h1
  have H2 := Lib.hid h2
  obtain ⟨v, hv⟩ : ∃ v, begL eqV l m = v := ⟨_, rfl⟩
  rw [hv] at cB cR
  have hA0 : A1 = none → n1 = 0 := fun e => by subst e; exact h1.none_
  have hcc := h1.2.1
  have hcm := h1.2.2.1
  unfold maxLen at hcm
  clear hv h1 h2
  have q1 : ¬ ((60 : Int) < (n1 : Int)) := by omega
  have q2 : ¬ ((60 : Int) < (n2 : Int)) := by omega
  have tv : (v == v) = true := by simp
  go_enter Try.func12, Try.ntmps12
  go_wp2_with fail
  go_loopw [7] (fun i wr => ∃ k : Nat, k ≤ n1 ∧ k ≤ n2 ∧ i = .int .i64 k ∧ Hid (Below w.heap.size w wr)) (fun i _ => n1 - (intOf i).toNat)
  case atStart => exact ⟨0, Nat.zero_le _, Nat.zero_le _, rfl, Below.refl _ _⟩
  case round =>
    obtain ⟨k, hk1, hk2, rfl, hb⟩ := hrel
    by_cases hlt : k < n1 ∧ k < n2
    · obtain ⟨hlt, k2⟩ := hlt
      obtain ⟨b1, o1, x, D1, m1, d1, rfl, hb1, hx, p1, p2, p3, p4, hse1, _⟩ := slv_at H1.out hlt
      obtain ⟨b2, o2, y, D2, m2, d2, rfl, hb2, hy, q1', q2', q3', q4', hse2, _⟩ := slv_at H2.out k2
      have ea : ∀ W, Below wr.heap.size wr W → Below w.heap.size w W := fun W hW => bl_trans hb.out hb.out.size hW
      have cc : ∀ W, Below wr.heap.size wr W → Hid (Calls Try.prog 59 #[eventV x.kind x.n x.m D1 m1 d1, eventV y.kind y.n y.m D2 m2 d2] W fun e w' => e = .returned (.bool (eqH x.kind x.n x.m y.kind y.n y.m && eqEs x.trace y.trace)) ∧ Below W.heap.size W w') := fun W hW => evSame_any x.kind x.n x.m y.kind y.n y.m w.heap.size D1 D2 m1 d1 m2 d2 x.trace y.trace W (hse1.keep (ea W hW)) (hse2.keep (ea W hW)) (ea W hW).size
      have cd : ∀ W, Below wr.heap.size wr W → Hid (Calls Try.prog 60 #[eventV x.kind x.n x.m D1 m1 d1, eventV y.kind y.n y.m D2 m2 d2] W fun e w' => e = .returned (.bool (eqH x.kind x.n x.m y.kind y.n y.m && eqEs x.trace y.trace)) ∧ Below W.heap.size W w') := fun W hW => refEvSame_any x.kind x.n x.m y.kind y.n y.m w.heap.size D1 D2 m1 d1 m2 d2 x.trace y.trace W (hse1.keep (ea W hW)) (hse2.keep (ea W hW)) (ea W hW).size
      obtain ⟨u, hu⟩ : ∃ u, (eqH x.kind x.n x.m y.kind y.n y.m && eqEs x.trace y.trace) = u := ⟨_, rfl⟩
      rw [hu] at cc cd
      have tu : (u != u) = false := by simp
      clear hu hse1 hse2 hx hy cB cR cT
      have hS0 : Below wr.heap.size wr wr.drew := (Below.refl _ _).drew
      go_wp2_with fail
      refine wp_region_held (S := fun W => Below wr.heap.size wr W) (by kernel_rfl) ?_
      change wpAnyH _ _ _ _ _ _ _ _ (World.drew _)
      refine wpAnyH_take (i := 0) (v := .slice (some ⟨b1, o1, none⟩) n1 c1) rfl (by kernel_rfl) (by kernel_rfl) (by kernel_rfl) (fun _ _ _ h => h) (Or.inl ⟨by rfl, by intro W hW; go_simp; try (first | (with_reducible rfl) | omega)⟩) hS0 ?_
      refine wpAnyH_take (i := 1) (v := .int .i64 (k : Int)) rfl (by kernel_rfl) (by kernel_rfl) (by kernel_rfl) (fun _ _ _ h => h) (Or.inl ⟨by rfl, by intro W hW; go_simp; try (first | (with_reducible rfl) | omega)⟩) hS0 ?_
      refine wpAnyH_take (i := 2) (v := .pointer (some ⟨b1, o1 + k * 4, none⟩)) rfl (by kernel_rfl) (by kernel_rfl) (by kernel_rfl) (fun _ _ _ h => h) (Or.inl ⟨by rfl, by intro W hW; go_simp; try (first | (with_reducible rfl) | omega)⟩) hS0 ?_
      refine wpAnyH_take (i := 3) (v := eventV x.kind x.n x.m D1 m1 d1) rfl (by kernel_rfl) (by kernel_rfl) (by kernel_rfl) (fun _ _ _ h => h) (Or.inl ⟨by rfl, by intro W hW; have a1 := ((ea W hW).cell hb1).trans p1; have a2 := ((ea W hW).cell hb1).trans p2; have a3 := ((ea W hW).cell hb1).trans p3; have a4 := ((ea W hW).cell hb1).trans p4; go_simp; try (first | (with_reducible rfl) | omega)⟩) hS0 ?_
      refine wpAnyH_take (i := 4) (v := .slice (some ⟨b2, o2, none⟩) n2 c2) rfl (by kernel_rfl) (by kernel_rfl) (by kernel_rfl) (fun _ _ _ h => h) (Or.inl ⟨by rfl, by intro W hW; go_simp; try (first | (with_reducible rfl) | omega)⟩) hS0 ?_
      refine wpAnyH_take (i := 5) (v := .int .i64 (k : Int)) rfl (by kernel_rfl) (by kernel_rfl) (by kernel_rfl) (fun _ _ _ h => h) (Or.inl ⟨by rfl, by intro W hW; go_simp; try (first | (with_reducible rfl) | omega)⟩) hS0 ?_
      refine wpAnyH_take (i := 6) (v := .pointer (some ⟨b2, o2 + k * 4, none⟩)) rfl (by kernel_rfl) (by kernel_rfl) (by kernel_rfl) (fun _ _ _ h => h) (Or.inl ⟨by rfl, by intro W hW; go_simp; try (first | (with_reducible rfl) | omega)⟩) hS0 ?_
      refine wpAnyH_take (i := 7) (v := eventV y.kind y.n y.m D2 m2 d2) rfl (by kernel_rfl) (by kernel_rfl) (by kernel_rfl) (fun _ _ _ h => h) (Or.inl ⟨by rfl, by intro W hW; have a1 := ((ea W hW).cell hb2).trans q1'; have a2 := ((ea W hW).cell hb2).trans q2'; have a3 := ((ea W hW).cell hb2).trans q3'; have a4 := ((ea W hW).cell hb2).trans q4'; go_simp; try (first | (with_reducible rfl) | omega)⟩) hS0 ?_
      refine wpAnyH_take (i := 9) (v := .slice (some ⟨b1, o1, none⟩) n1 c1) rfl (by kernel_rfl) (by kernel_rfl) (by kernel_rfl) (fun _ _ _ h => h) (Or.inl ⟨by rfl, by intro W hW; go_simp; try (first | (with_reducible rfl) | omega)⟩) hS0 ?_
      refine wpAnyH_take (i := 10) (v := .int .i64 (k : Int)) rfl (by kernel_rfl) (by kernel_rfl) (by kernel_rfl) (fun _ _ _ h => h) (Or.inl ⟨by rfl, by intro W hW; go_simp; try (first | (with_reducible rfl) | omega)⟩) hS0 ?_
      refine wpAnyH_take (i := 11) (v := .pointer (some ⟨b1, o1 + k * 4, none⟩)) rfl (by kernel_rfl) (by kernel_rfl) (by kernel_rfl) (fun _ _ _ h => h) (Or.inl ⟨by rfl, by intro W hW; go_simp; try (first | (with_reducible rfl) | omega)⟩) hS0 ?_
      refine wpAnyH_take (i := 12) (v := eventV x.kind x.n x.m D1 m1 d1) rfl (by kernel_rfl) (by kernel_rfl) (by kernel_rfl) (fun _ _ _ h => h) (Or.inl ⟨by rfl, by intro W hW; have a1 := ((ea W hW).cell hb1).trans p1; have a2 := ((ea W hW).cell hb1).trans p2; have a3 := ((ea W hW).cell hb1).trans p3; have a4 := ((ea W hW).cell hb1).trans p4; go_simp; try (first | (with_reducible rfl) | omega)⟩) hS0 ?_
      refine wpAnyH_take (i := 13) (v := .slice (some ⟨b2, o2, none⟩) n2 c2) rfl (by kernel_rfl) (by kernel_rfl) (by kernel_rfl) (fun _ _ _ h => h) (Or.inl ⟨by rfl, by intro W hW; go_simp; try (first | (with_reducible rfl) | omega)⟩) hS0 ?_
      refine wpAnyH_take (i := 14) (v := .int .i64 (k : Int)) rfl (by kernel_rfl) (by kernel_rfl) (by kernel_rfl) (fun _ _ _ h => h) (Or.inl ⟨by rfl, by intro W hW; go_simp; try (first | (with_reducible rfl) | omega)⟩) hS0 ?_
      refine wpAnyH_take (i := 15) (v := .pointer (some ⟨b2, o2 + k * 4, none⟩)) rfl (by kernel_rfl) (by kernel_rfl) (by kernel_rfl) (fun _ _ _ h => h) (Or.inl ⟨by rfl, by intro W hW; go_simp; try (first | (with_reducible rfl) | omega)⟩) hS0 ?_
      refine wpAnyH_take (i := 16) (v := eventV y.kind y.n y.m D2 m2 d2) rfl (by kernel_rfl) (by kernel_rfl) (by kernel_rfl) (fun _ _ _ h => h) (Or.inl ⟨by rfl, by intro W hW; have a1 := ((ea W hW).cell hb2).trans q1'; have a2 := ((ea W hW).cell hb2).trans q2'; have a3 := ((ea W hW).cell hb2).trans q3'; have a4 := ((ea W hW).cell hb2).trans q4'; go_simp; try (first | (with_reducible rfl) | omega)⟩) hS0 ?_
      refine wpAnyH_one (i := 8) (by kernel_rfl) rfl (fun K hK => ?_)
      go_simp
      refine Calls.mono (cc _ hS0).out ?_
      rintro e w3 ⟨rfl, hb3⟩
      have hS3 := bl_trans hS0 hS0.size hb3
      go_simp
      refine hK _ _ ⟨hS3, ?_⟩; clear hK K
      refine wpAnyH_one (i := 17) (by kernel_rfl) rfl (fun K hK => ?_)
      go_simp
      refine Calls.mono (cd _ hS3).out ?_
      rintro e w4 ⟨rfl, hb4⟩
      have hS4 := bl_trans hS3 hS3.size hb4
      go_simp
      refine hK _ _ ⟨hS4, ?_⟩; clear hK K
      refine wpAnyH_one (i := 18) (by kernel_rfl) rfl (fun K hK => ?_)
      go_simp
      refine hK _ _ ⟨hS4, ?_⟩; clear hK K
      refine wpAnyH_done (by kernel_rfl) ?_ _
      have X := Lib.hid (bl_trans hb.out hb.out.size hS4)
      clear hS4 hb4 hS3 hb3 hS0
      go_wp2_with fail
      go_roundw
      case rel => exact ⟨k + 1, by omega, by omega, by go_num, X.out⟩
      case measure => simp [intOf]; omega
    · have hcs : (n1 ≤ k) ∨ (k < n1 ∧ n2 ≤ k) := by omega
      have hns : (n < 0) ∨ (0 ≤ n ∧ (n1 : Int) < n) ∨ (0 ≤ n ∧ n ≤ (n1 : Int)) := by omega
      have CB := cB wr hb.out
      clear cB hlt
      have fin : ∀ (j : Nat) (W : World), j ≤ n1 → Hid (Below w.heap.size w W) → Hid (Calls Try.prog 61 #[.slice A1 j c1, .slice A1 n1 c1] W fun e w' => e = .returned (.bool true) ∧ Hid (Below w.heap.size w w')) := fun j W hj hW => (cT j W hj hW.out).out.mono fun e w' h => ⟨h.1, bl_trans hW.out hW.out.size h.2⟩
      clear cT
      rcases hcs with hc1 | ⟨hc1, hc2⟩ <;> rcases hns with hm1 | ⟨hm0, hm1⟩ | ⟨hm0, hm1⟩ <;> cases A1
      all_goals
        first
          | (have hz := hA0 rfl
             subst hz)
          | skip
      all_goals first | (exfalso; omega) | skip
      all_goals
        go_wp2_with fail
        refine Calls.mono CB.out ?_
        rintro e w3 ⟨rfl, hb3⟩
        have HB3 := Lib.hid (bl_trans hb.out hb.out.size hb3)
        clear hb3
        go_wp2_with fail
        refine Calls.mono (cR _ HB3.out).out ?_
        rintro e w4 ⟨rfl, hb4⟩
        have HB4 := Lib.hid (bl_trans HB3.out HB3.out.size hb4)
        clear hb4
        go_wp2_with fail
        refine Calls.mono (fin _ _ (by omega) HB4).out ?_
        rintro e w5 ⟨rfl, HB5⟩
        go_wp2_with fail
        refine Calls.mono (cl _).out ?_
        rintro e w6 ⟨rfl, hb6⟩
        have HB6 := Lib.hid (bl_trans HB5.out HB5.out.size hb6)
        clear hb6
        go_wp2_with fail
        go_ret
        exact ⟨rfl, HB6.out⟩

set_option maxRecDepth 100000 in
set_option maxHeartbeats 1000000 in
theorem eventBegins_law (A1 : Option Addr) (n1 c1 : Nat) (l : List DEvent) (A2 : Option Addr) (n2 c2 : Nat) (m : List DEvent) (n : Int) (w : World) (h1 : SlR 4 48 REvent w w.heap.size A1 n1 c1 l) (h2 : SlR 4 48 REvent w w.heap.size A2 n2 c2 m) (_ : (Lit.int .i64 n).wf = true) :
    Calls Try.prog 12 #[.slice A1 n1 c1, .slice A2 n2 c2, .int .i64 n] w fun e w' => e = .returned (.bool true) ∧ Below w.heap.size w w' := by
  by_cases hs : n1 ≤ 60 ∧ n2 ≤ 60
  · exact eventBegins_few A1 A2 n1 n2 c1 c2 l m n w h1 h2 hs.1 hs.2
  · have cl : ∀ w : World, Hid (Calls Try.prog 58 #[] w fun e w' => e = .returned (.bool true) ∧ Below w.heap.size w w') := fun w => ev_lives w
    have hcs : (60 < n1) ∨ (n1 ≤ 60 ∧ 60 < n2) := by omega
    clear h1 h2 hs
    rcases hcs with q1 | ⟨q1, q2⟩
    all_goals
      go_enter Try.func12, Try.ntmps12
      go_wp2_with fail
      refine Calls.mono (cl _).out ?_
      rintro e w6 ⟨rfl, hb6⟩
      have HB6 := Lib.hid hb6
      clear hb6
      go_wp2_with fail
      go_ret
      exact ⟨rfl, HB6.out⟩
end Go.Proofs.Ytpladpmkpchndaa
