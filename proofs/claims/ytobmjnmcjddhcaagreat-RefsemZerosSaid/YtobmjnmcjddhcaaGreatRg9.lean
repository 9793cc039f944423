import Derived.Test.YtobmjnmcjddhcaaGreatRg8
set_option linter.unusedSimpArgs false
set_option linter.unusedVariables false
set_option maxRecDepth 100000
set_option maxHeartbeats 64000000
namespace Go.Proofs.YtobmjnmcjddhcaaGreat
open Go.RowKit
def IsEffX (P : List Int → Prop) (w : World) (e : Ending) (w' : World) : Prop := ∃ A n c xs r, e = .returned (.tuple #[.slice A n c, .int .i64 r]) ∧ n ≤ 60 ∧ SlI w' w'.heap.size A n c xs ∧ Below w.heap.size w w' ∧ (r = 0 → P xs)
theorem reffectx_any (FA : Option Addr) (fn fc : Nat) (fs : List DFunc) (f k : Nat) (x0 : DFunc) (SA : Option Addr) (sn sc : Nat) (st : List Int) (w : World) (h : PgC w FA fn fc fs) (hi : f < fn) (hx0 : fs[f]? = some x0) (hk : k < x0.code.length) (hst : SlI w w.heap.size SA sn sc st) (hsn : sn ≤ 100) (hbare : bareF x0 = true) :
  Calls Tryz.prog 122 #[.agg #[.slice FA fn fc], .int .i64 (f : Int), .int .i64 (k : Int), .slice SA sn sc] w (IsEffX (EffK fs x0 k st) w) := by
 obtain ⟨i0, hi0, hz0, hz1, hz2⟩ := info_parts info_ty
 obtain ⟨w1, hw1⟩ : ∃ X, w.alloc (.cells #[.slice FA fn fc] 24) = X := ⟨_, rfl⟩
 obtain ⟨g, hg⟩ : ∃ g, w.heap.size = g := ⟨_, rfl⟩
 have hb1 : Below w.heap.size w w1 := by rw [← hw1]; exact bl_one _
 have hc1 : Cells w1 g [.slice FA fn fc] := by rw [← hw1, ← hg]; exact Cells.new w [.slice FA fn fc] _
 have EP : Hid (∀ W, Below w1.heap.size w1 W → W.cell? ⟨g, 0, none⟩ = some (.slice FA fn fc)) := Hd fun W hW => (hc1.on hW).at_ 0 _ rfl
 have HP : Hid (∀ W, Below w1.heap.size w1 W → PgC W FA fn fc fs) := Hd fun W hW => h.on (hb1.trans (hW.mono hb1.size))
 have HB1 := Hd hb1
 have HBW : Hid (∀ W, Below w1.heap.size w1 W → Below w.heap.size w W) := Hd fun W hW => hb1.trans (hW.mono hb1.size)
 have hfn := h.pg.le
 have hn0 : (fn : Int) ≤ 50 := by omega
 have p0 := EP.out w1 (Below.refl _ _)
 have cN := Hd (rneedsx_any FA fn fc fs f k x0 SA sn sc st w1 (HP.out w1 (Below.refl _ _)) hi hx0 hk (hst.on hb1) hsn hbare)
 have HST : Hid (∀ W, Below w1.heap.size w1 W → SlI W W.heap.size SA sn sc st) := Hd fun W hW => hst.on (hb1.trans (hW.mono hb1.size))
 clear hb1 hc1
 clear h hx0 hk
 go_in
 go_wp2_with fail
 refine cN.out.mono ?_
 rintro e w2 ⟨A, n, c, xs, B, m, d, ys, r, rfl, hn, hm, ha, hb, hbl, hnk⟩
 have HNK := Hd hnk
 have HYL : Hid (ys.length = m) := Hd hb.1
 have HSTL : Hid (st.length = sn) := Hd hst.1
 clear hnk
 have HB2 := Hd hbl
 have HA := Hd ha
 have HY := Hd hb
 clear ha hb hbl cN hw1 hg p0 hst
 have hn1 : (n : Int) ≤ 300 := by omega
 have hm1 : (m : Int) ≤ 300 := by omega
 have hs1 : (sn : Int) ≤ 100 := by omega
 by_cases hr : r = 0
 ·subst hr
  by_cases hl : sn < n
  ·have d0 : decide ((sn : Int) - (n : Int) < 0) = true := dcT (by omega)
   go_wp2_with fail
   go_ret2
   exact ⟨none, 0, 0, [], 10, rfl, by omega, sli_nil _, HBW.out _ HB2.out, fun h => absurd h (by decide)⟩
  ·obtain ⟨l, rfl⟩ : ∃ l, sn = n + l := ⟨sn - n, by omega⟩
   have d0 : decide (((n + l : Nat) : Int) - (n : Int) < 0) = false := dcF (by omega)
   have d0b : decide ((n : Int) + (l : Int) - (n : Int) < 0) = false := dcF (by omega)
   have d0c : decide ((l : Int) < 0) = false := dcF (by omega)
   have hl1 : (l : Int) ≤ 100 := by omega
   have hl0 : (0 : Int) ≤ (l : Int) := by omega
   have hel : (n : Int) + (l : Int) - (n : Int) = (l : Int) := by omega
   have cS : Hid (∀ X c2, SlI w2 w2.heap.size X n c2 (st.drop l) → Calls Tryz.prog 125 #[.slice X n c2, .slice A n c] w2 (IsSame (st.drop l) xs w2)) := Hd fun X c2 hX => rsame_any n c2 n c X A (st.drop l) xs w2 hX HA.out (by omega) (by omega)
   have HS2 := Hd (HST.out w2 HB2.out)
   have hmx : sc ≤ maxLen := HS2.out.2.2.1
   have hlc : n + l ≤ sc := HS2.out.2.1
   have hsc1 : (sc : Int) ≤ 9223372036854775807 := by unfold maxLen at hmx; omega
   have hsc2 : (n : Int) + (l : Int) ≤ (sc : Int) := by omega
   have hsc3 : (l : Int) ≤ (sc : Int) := by omega
   have hsc4 : (l : Int) ≤ (n : Int) + (l : Int) := by omega
   by_cases hz : n + l = 0
   ·obtain rfl : n = 0 := by omega
    obtain rfl : l = 0 := by omega
    have hst0 : st = [] := List.eq_nil_of_length_eq_zero (by have := HS2.out.1; omega)
    by_cases hc0 : sc = 0
    ·subst hc0
     rcases SA with _ | ad
     ·go_wp2_with fail
      refine (cS.out _ _ (by first | exact sli_drop HS2.out | exact sli_null 0 (by first | omega | (unfold maxLen; omega)) (by have := HS2.out.1; simp; omega))).mono ?_
      rintro e w3 ⟨r2, rfl, hsm, hb3⟩
      have HSM := Hd hsm
      clear hsm
      have HB3 : Hid (Below w1.heap.size w1 w3) := Hd (HB2.out.trans (hb3.mono HB2.out.size))
      have HS3 := Hd (HST.out w3 HB3.out)
      have HY3 := Hd (HY.out.on hb3)
      clear hb3 cS
      cases r2 with
      | false =>
       go_wp2_with fail
       go_ret2
       exact ⟨none, 0, 0, [], 9, rfl, by omega, sli_nil _, HBW.out _ HB3.out, fun h => absurd h (by decide)⟩
      | true =>
       by_cases hlm : 60 < 0 + m
       ·have d1 : decide (((0 : Nat) : Int) + (m : Int) > 60) = true := dcT (by omega)
        have d1b : decide (60 < ((0 : Nat) : Int) + (m : Int)) = true := dcT (by omega)
        have d1c : decide (60 < 0 + m) = true := dcT (by omega)
        go_wp2_with fail
        go_ret2
        exact ⟨none, 0, 0, [], 10, rfl, by omega, sli_nil _, HBW.out _ HB3.out, fun h => absurd h (by decide)⟩
       ·have d1 : decide (((0 : Nat) : Int) + (m : Int) > 60) = false := dcF (by omega)
        have d1b : decide (60 < ((0 : Nat) : Int) + (m : Int)) = false := dcF (by omega)
        have d1c : decide (60 < 0 + m) = false := dcF (by omega)
        have hsr1 := Hd (sli_src (sli_take HS3.out))
        have O1 := Hd (one_ty (st.take 0))
        have O2 := Hd (one_ty ys)
        have HLM : Hid (0 + m ≤ 60) := Hd (by omega)
        go_wp2_with (first
          | (at_builtin; refine wpList_append_src _ rfl _ _ 32 rfl w3.heap.size 40 i0 (.int .i64 0) 1 8 Tryz.underlying32 hi0 hz0 hz1 hz2 rfl (by decide) (.slice none 0 0) 0 [] rfl (World.ownsRow_nil _ _ _ _) none 0 _ _ rfl hsr1.out O1.out (by unfold maxLen; omega) (by omega) (Nat.le_refl _) ?_
             intro v1 w4 hown1 hgrow1 hat1
             rw [List.nil_append, Nat.zero_add] at hown1
             obtain ⟨B1, t1, rfl, o1, b1⟩ := app2 (Below.refl _ _) hown1 hgrow1 (fun j hj => by cases hj)
             have P1 := Hd o1
             have B1' := Hd b1
             have hsr2 := Hd (sli_src (HY3.out.on b1))
             have hs1 := B1'.out.size
             clear hown1 hgrow1 hat1 o1 b1)
          | (at_builtin; go_must (refine wpList_append_src _ rfl _ _ 32 rfl w3.heap.size 40 i0 (.int .i64 0) 1 8 Tryz.underlying32 hi0 hz0 hz1 hz2 rfl (by decide) _ _ _ rfl P1.out B m d _ rfl hsr2.out O2.out (by unfold maxLen; omega) (by omega) hs1 ?_)
             intro v2 w5 hown2 hgrow2 hat2
             obtain ⟨B2, t2, rfl, o2, b2⟩ := app2 B1'.out hown2 hgrow2 (fun j hj => (P1.out.lt j hj).1)
             have P2 := Hd o2
             have B2' := Hd b2
             clear hown2 hgrow2 hat2 o2 b2)
          | fail)
        go_ret2
        exact ⟨_, _, _, st.take 0 ++ ys, 0, rfl, by have := HLM.out; omega, SlR.of_ownN (sz := 1) (bytes := 8) (f := iC) (fun _ => rfl) (by omega) (by rw [List.flatMap_append]; first | exact P2.out | (have h := P2.out; simp only [Nat.zero_add] at h; exact h)) (by have := HLM.out; unfold reachBytes; omega), HBW.out _ (HB3.out.trans (B2'.out.mono HB3.out.size)), fun _ => ⟨st.take 0, xs, ys, HNK.out (by trivial), by have := HSM.out (by trivial); rw [← this, List.take_append_drop], by have := HLM.out; have := HYL.out; rw [List.length_take]; omega, rfl⟩⟩
     ·go_wp2_with fail
      refine (cS.out _ _ (by first | exact sli_drop HS2.out | exact sli_null 0 (by first | omega | (unfold maxLen; omega)) (by have := HS2.out.1; simp; omega))).mono ?_
      rintro e w3 ⟨r2, rfl, hsm, hb3⟩
      have HSM := Hd hsm
      clear hsm
      have HB3 : Hid (Below w1.heap.size w1 w3) := Hd (HB2.out.trans (hb3.mono HB2.out.size))
      have HS3 := Hd (HST.out w3 HB3.out)
      have HY3 := Hd (HY.out.on hb3)
      clear hb3 cS
      cases r2 with
      | false =>
       go_wp2_with fail
       go_ret2
       exact ⟨none, 0, 0, [], 9, rfl, by omega, sli_nil _, HBW.out _ HB3.out, fun h => absurd h (by decide)⟩
      | true =>
       by_cases hlm : 60 < 0 + m
       ·have d1 : decide (((0 : Nat) : Int) + (m : Int) > 60) = true := dcT (by omega)
        have d1b : decide (60 < ((0 : Nat) : Int) + (m : Int)) = true := dcT (by omega)
        have d1c : decide (60 < 0 + m) = true := dcT (by omega)
        go_wp2_with fail
        go_ret2
        exact ⟨none, 0, 0, [], 10, rfl, by omega, sli_nil _, HBW.out _ HB3.out, fun h => absurd h (by decide)⟩
       ·have d1 : decide (((0 : Nat) : Int) + (m : Int) > 60) = false := dcF (by omega)
        have d1b : decide (60 < ((0 : Nat) : Int) + (m : Int)) = false := dcF (by omega)
        have d1c : decide (60 < 0 + m) = false := dcF (by omega)
        have hsr1 := Hd (sli_src (sli_take HS3.out))
        have O1 := Hd (one_ty (st.take 0))
        have O2 := Hd (one_ty ys)
        have HLM : Hid (0 + m ≤ 60) := Hd (by omega)
        go_wp2_with (first
          | (at_builtin; refine wpList_append_src _ rfl _ _ 32 rfl w3.heap.size 40 i0 (.int .i64 0) 1 8 Tryz.underlying32 hi0 hz0 hz1 hz2 rfl (by decide) (.slice none 0 0) 0 [] rfl (World.ownsRow_nil _ _ _ _) (some ad) 0 _ _ rfl hsr1.out O1.out (by unfold maxLen; omega) (by omega) (Nat.le_refl _) ?_
             intro v1 w4 hown1 hgrow1 hat1
             rw [List.nil_append, Nat.zero_add] at hown1
             obtain ⟨B1, t1, rfl, o1, b1⟩ := app2 (Below.refl _ _) hown1 hgrow1 (fun j hj => by cases hj)
             have P1 := Hd o1
             have B1' := Hd b1
             have hsr2 := Hd (sli_src (HY3.out.on b1))
             have hs1 := B1'.out.size
             clear hown1 hgrow1 hat1 o1 b1)
          | (at_builtin; go_must (refine wpList_append_src _ rfl _ _ 32 rfl w3.heap.size 40 i0 (.int .i64 0) 1 8 Tryz.underlying32 hi0 hz0 hz1 hz2 rfl (by decide) _ _ _ rfl P1.out B m d _ rfl hsr2.out O2.out (by unfold maxLen; omega) (by omega) hs1 ?_)
             intro v2 w5 hown2 hgrow2 hat2
             obtain ⟨B2, t2, rfl, o2, b2⟩ := app2 B1'.out hown2 hgrow2 (fun j hj => (P1.out.lt j hj).1)
             have P2 := Hd o2
             have B2' := Hd b2
             clear hown2 hgrow2 hat2 o2 b2)
          | fail)
        go_ret2
        exact ⟨_, _, _, st.take 0 ++ ys, 0, rfl, by have := HLM.out; omega, SlR.of_ownN (sz := 1) (bytes := 8) (f := iC) (fun _ => rfl) (by omega) (by rw [List.flatMap_append]; first | exact P2.out | (have h := P2.out; simp only [Nat.zero_add] at h; exact h)) (by have := HLM.out; unfold reachBytes; omega), HBW.out _ (HB3.out.trans (B2'.out.mono HB3.out.size)), fun _ => ⟨st.take 0, xs, ys, HNK.out (by trivial), by have := HSM.out (by trivial); rw [← this, List.take_append_drop], by have := HLM.out; have := HYL.out; rw [List.length_take]; omega, rfl⟩⟩
    ·rcases SA with _ | ad
     ·go_wp2_with fail
      refine (cS.out _ _ (by first | exact sli_drop HS2.out | exact sli_null 0 (by first | omega | (unfold maxLen; omega)) (by have := HS2.out.1; simp; omega))).mono ?_
      rintro e w3 ⟨r2, rfl, hsm, hb3⟩
      have HSM := Hd hsm
      clear hsm
      have HB3 : Hid (Below w1.heap.size w1 w3) := Hd (HB2.out.trans (hb3.mono HB2.out.size))
      have HS3 := Hd (HST.out w3 HB3.out)
      have HY3 := Hd (HY.out.on hb3)
      clear hb3 cS
      cases r2 with
      | false =>
       go_wp2_with fail
       go_ret2
       exact ⟨none, 0, 0, [], 9, rfl, by omega, sli_nil _, HBW.out _ HB3.out, fun h => absurd h (by decide)⟩
      | true =>
       by_cases hlm : 60 < 0 + m
       ·have d1 : decide (((0 : Nat) : Int) + (m : Int) > 60) = true := dcT (by omega)
        have d1b : decide (60 < ((0 : Nat) : Int) + (m : Int)) = true := dcT (by omega)
        have d1c : decide (60 < 0 + m) = true := dcT (by omega)
        go_wp2_with fail
        go_ret2
        exact ⟨none, 0, 0, [], 10, rfl, by omega, sli_nil _, HBW.out _ HB3.out, fun h => absurd h (by decide)⟩
       ·have d1 : decide (((0 : Nat) : Int) + (m : Int) > 60) = false := dcF (by omega)
        have d1b : decide (60 < ((0 : Nat) : Int) + (m : Int)) = false := dcF (by omega)
        have d1c : decide (60 < 0 + m) = false := dcF (by omega)
        have hsr1 := Hd (sli_src (sli_take HS3.out))
        have O1 := Hd (one_ty (st.take 0))
        have O2 := Hd (one_ty ys)
        have HLM : Hid (0 + m ≤ 60) := Hd (by omega)
        go_wp2_with (first
          | (at_builtin; refine wpList_append_src _ rfl _ _ 32 rfl w3.heap.size 40 i0 (.int .i64 0) 1 8 Tryz.underlying32 hi0 hz0 hz1 hz2 rfl (by decide) (.slice none 0 0) 0 [] rfl (World.ownsRow_nil _ _ _ _) none 0 _ _ rfl hsr1.out O1.out (by unfold maxLen; omega) (by omega) (Nat.le_refl _) ?_
             intro v1 w4 hown1 hgrow1 hat1
             rw [List.nil_append, Nat.zero_add] at hown1
             obtain ⟨B1, t1, rfl, o1, b1⟩ := app2 (Below.refl _ _) hown1 hgrow1 (fun j hj => by cases hj)
             have P1 := Hd o1
             have B1' := Hd b1
             have hsr2 := Hd (sli_src (HY3.out.on b1))
             have hs1 := B1'.out.size
             clear hown1 hgrow1 hat1 o1 b1)
          | (at_builtin; go_must (refine wpList_append_src _ rfl _ _ 32 rfl w3.heap.size 40 i0 (.int .i64 0) 1 8 Tryz.underlying32 hi0 hz0 hz1 hz2 rfl (by decide) _ _ _ rfl P1.out B m d _ rfl hsr2.out O2.out (by unfold maxLen; omega) (by omega) hs1 ?_)
             intro v2 w5 hown2 hgrow2 hat2
             obtain ⟨B2, t2, rfl, o2, b2⟩ := app2 B1'.out hown2 hgrow2 (fun j hj => (P1.out.lt j hj).1)
             have P2 := Hd o2
             have B2' := Hd b2
             clear hown2 hgrow2 hat2 o2 b2)
          | fail)
        go_ret2
        exact ⟨_, _, _, st.take 0 ++ ys, 0, rfl, by have := HLM.out; omega, SlR.of_ownN (sz := 1) (bytes := 8) (f := iC) (fun _ => rfl) (by omega) (by rw [List.flatMap_append]; first | exact P2.out | (have h := P2.out; simp only [Nat.zero_add] at h; exact h)) (by have := HLM.out; unfold reachBytes; omega), HBW.out _ (HB3.out.trans (B2'.out.mono HB3.out.size)), fun _ => ⟨st.take 0, xs, ys, HNK.out (by trivial), by have := HSM.out (by trivial); rw [← this, List.take_append_drop], by have := HLM.out; have := HYL.out; rw [List.length_take]; omega, rfl⟩⟩
     ·go_wp2_with fail
      refine (cS.out _ _ (by first | exact sli_drop HS2.out | exact sli_null 0 (by first | omega | (unfold maxLen; omega)) (by have := HS2.out.1; simp; omega))).mono ?_
      rintro e w3 ⟨r2, rfl, hsm, hb3⟩
      have HSM := Hd hsm
      clear hsm
      have HB3 : Hid (Below w1.heap.size w1 w3) := Hd (HB2.out.trans (hb3.mono HB2.out.size))
      have HS3 := Hd (HST.out w3 HB3.out)
      have HY3 := Hd (HY.out.on hb3)
      clear hb3 cS
      cases r2 with
      | false =>
       go_wp2_with fail
       go_ret2
       exact ⟨none, 0, 0, [], 9, rfl, by omega, sli_nil _, HBW.out _ HB3.out, fun h => absurd h (by decide)⟩
      | true =>
       by_cases hlm : 60 < 0 + m
       ·have d1 : decide (((0 : Nat) : Int) + (m : Int) > 60) = true := dcT (by omega)
        have d1b : decide (60 < ((0 : Nat) : Int) + (m : Int)) = true := dcT (by omega)
        have d1c : decide (60 < 0 + m) = true := dcT (by omega)
        go_wp2_with fail
        go_ret2
        exact ⟨none, 0, 0, [], 10, rfl, by omega, sli_nil _, HBW.out _ HB3.out, fun h => absurd h (by decide)⟩
       ·have d1 : decide (((0 : Nat) : Int) + (m : Int) > 60) = false := dcF (by omega)
        have d1b : decide (60 < ((0 : Nat) : Int) + (m : Int)) = false := dcF (by omega)
        have d1c : decide (60 < 0 + m) = false := dcF (by omega)
        have hsr1 := Hd (sli_src (sli_take HS3.out))
        have O1 := Hd (one_ty (st.take 0))
        have O2 := Hd (one_ty ys)
        have HLM : Hid (0 + m ≤ 60) := Hd (by omega)
        go_wp2_with (first
          | (at_builtin; refine wpList_append_src _ rfl _ _ 32 rfl w3.heap.size 40 i0 (.int .i64 0) 1 8 Tryz.underlying32 hi0 hz0 hz1 hz2 rfl (by decide) (.slice none 0 0) 0 [] rfl (World.ownsRow_nil _ _ _ _) (some ad) 0 _ _ rfl hsr1.out O1.out (by unfold maxLen; omega) (by omega) (Nat.le_refl _) ?_
             intro v1 w4 hown1 hgrow1 hat1
             rw [List.nil_append, Nat.zero_add] at hown1
             obtain ⟨B1, t1, rfl, o1, b1⟩ := app2 (Below.refl _ _) hown1 hgrow1 (fun j hj => by cases hj)
             have P1 := Hd o1
             have B1' := Hd b1
             have hsr2 := Hd (sli_src (HY3.out.on b1))
             have hs1 := B1'.out.size
             clear hown1 hgrow1 hat1 o1 b1)
          | (at_builtin; go_must (refine wpList_append_src _ rfl _ _ 32 rfl w3.heap.size 40 i0 (.int .i64 0) 1 8 Tryz.underlying32 hi0 hz0 hz1 hz2 rfl (by decide) _ _ _ rfl P1.out B m d _ rfl hsr2.out O2.out (by unfold maxLen; omega) (by omega) hs1 ?_)
             intro v2 w5 hown2 hgrow2 hat2
             obtain ⟨B2, t2, rfl, o2, b2⟩ := app2 B1'.out hown2 hgrow2 (fun j hj => (P1.out.lt j hj).1)
             have P2 := Hd o2
             have B2' := Hd b2
             clear hown2 hgrow2 hat2 o2 b2)
          | fail)
        go_ret2
        exact ⟨_, _, _, st.take 0 ++ ys, 0, rfl, by have := HLM.out; omega, SlR.of_ownN (sz := 1) (bytes := 8) (f := iC) (fun _ => rfl) (by omega) (by rw [List.flatMap_append]; first | exact P2.out | (have h := P2.out; simp only [Nat.zero_add] at h; exact h)) (by have := HLM.out; unfold reachBytes; omega), HBW.out _ (HB3.out.trans (B2'.out.mono HB3.out.size)), fun _ => ⟨st.take 0, xs, ys, HNK.out (by trivial), by have := HSM.out (by trivial); rw [← this, List.take_append_drop], by have := HLM.out; have := HYL.out; rw [List.length_take]; omega, rfl⟩⟩
   ·obtain ⟨sb, so, _, rfl, _, _, _⟩ := SlR.cell1 (f := Value.int .i64) HS2.out (i := 0) (by omega)
    by_cases hc0 : sc = l
    ·obtain rfl : n = 0 := by omega
     obtain rfl : l = sc := hc0.symm
     go_wp2_with fail
     refine (cS.out _ _ (by first | exact sli_drop HS2.out | exact sli_null 0 (by first | omega | (unfold maxLen; omega)) (by have := HS2.out.1; simp; omega))).mono ?_
     rintro e w3 ⟨r2, rfl, hsm, hb3⟩
     have HSM := Hd hsm
     clear hsm
     have HB3 : Hid (Below w1.heap.size w1 w3) := Hd (HB2.out.trans (hb3.mono HB2.out.size))
     have HS3 := Hd (HST.out w3 HB3.out)
     have HY3 := Hd (HY.out.on hb3)
     clear hb3 cS
     cases r2 with
     | false =>
      go_wp2_with fail
      go_ret2
      exact ⟨none, 0, 0, [], 9, rfl, by omega, sli_nil _, HBW.out _ HB3.out, fun h => absurd h (by decide)⟩
     | true =>
      by_cases hlm : 60 < l + m
      ·have d1 : decide ((l : Int) + (m : Int) > 60) = true := dcT (by omega)
       have d1b : decide (60 < (l : Int) + (m : Int)) = true := dcT (by omega)
       have d1c : decide (60 < l + m) = true := dcT (by omega)
       go_wp2_with fail
       go_ret2
       exact ⟨none, 0, 0, [], 10, rfl, by omega, sli_nil _, HBW.out _ HB3.out, fun h => absurd h (by decide)⟩
      ·have d1 : decide ((l : Int) + (m : Int) > 60) = false := dcF (by omega)
       have d1b : decide (60 < (l : Int) + (m : Int)) = false := dcF (by omega)
       have d1c : decide (60 < l + m) = false := dcF (by omega)
       have hsr1 := Hd (sli_src (sli_take HS3.out))
       have O1 := Hd (one_ty (st.take l))
       have O2 := Hd (one_ty ys)
       have HLM : Hid (l + m ≤ 60) := Hd (by omega)
       go_wp2_with (first
         | (at_builtin; refine wpList_append_src _ rfl _ _ 32 rfl w3.heap.size 40 i0 (.int .i64 0) 1 8 Tryz.underlying32 hi0 hz0 hz1 hz2 rfl (by decide) (.slice none 0 0) 0 [] rfl (World.ownsRow_nil _ _ _ _) (some ⟨sb, so, none⟩) l _ _ rfl hsr1.out O1.out (by unfold maxLen; omega) (by omega) (Nat.le_refl _) ?_
            intro v1 w4 hown1 hgrow1 hat1
            rw [List.nil_append, Nat.zero_add] at hown1
            obtain ⟨B1, t1, rfl, o1, b1⟩ := app2 (Below.refl _ _) hown1 hgrow1 (fun j hj => by cases hj)
            have P1 := Hd o1
            have B1' := Hd b1
            have hsr2 := Hd (sli_src (HY3.out.on b1))
            have hs1 := B1'.out.size
            clear hown1 hgrow1 hat1 o1 b1)
         | (at_builtin; go_must (refine wpList_append_src _ rfl _ _ 32 rfl w3.heap.size 40 i0 (.int .i64 0) 1 8 Tryz.underlying32 hi0 hz0 hz1 hz2 rfl (by decide) _ _ _ rfl P1.out B m d _ rfl hsr2.out O2.out (by unfold maxLen; omega) (by omega) hs1 ?_)
            intro v2 w5 hown2 hgrow2 hat2
            obtain ⟨B2, t2, rfl, o2, b2⟩ := app2 B1'.out hown2 hgrow2 (fun j hj => (P1.out.lt j hj).1)
            have P2 := Hd o2
            have B2' := Hd b2
            clear hown2 hgrow2 hat2 o2 b2)
         | fail)
       go_ret2
       exact ⟨_, _, _, st.take l ++ ys, 0, rfl, by have := HLM.out; omega, SlR.of_ownN (sz := 1) (bytes := 8) (f := iC) (fun _ => rfl) (by omega) (by rw [List.flatMap_append]; first | exact P2.out | (have h := P2.out; simp only [Nat.zero_add] at h; exact h)) (by have := HLM.out; unfold reachBytes; omega), HBW.out _ (HB3.out.trans (B2'.out.mono HB3.out.size)), fun _ => ⟨st.take l, xs, ys, HNK.out (by trivial), by have := HSM.out (by trivial); rw [← this, List.take_append_drop], by have := HLM.out; have := HYL.out; rw [List.length_take]; omega, rfl⟩⟩
    ·have hc1 : ¬ l = sc := fun e => hc0 e.symm
     go_wp2_with fail
     refine (cS.out _ _ (by first | exact sli_drop HS2.out | exact sli_null 0 (by first | omega | (unfold maxLen; omega)) (by have := HS2.out.1; simp; omega))).mono ?_
     rintro e w3 ⟨r2, rfl, hsm, hb3⟩
     have HSM := Hd hsm
     clear hsm
     have HB3 : Hid (Below w1.heap.size w1 w3) := Hd (HB2.out.trans (hb3.mono HB2.out.size))
     have HS3 := Hd (HST.out w3 HB3.out)
     have HY3 := Hd (HY.out.on hb3)
     clear hb3 cS
     cases r2 with
     | false =>
      go_wp2_with fail
      go_ret2
      exact ⟨none, 0, 0, [], 9, rfl, by omega, sli_nil _, HBW.out _ HB3.out, fun h => absurd h (by decide)⟩
     | true =>
      by_cases hlm : 60 < l + m
      ·have d1 : decide ((l : Int) + (m : Int) > 60) = true := dcT (by omega)
       have d1b : decide (60 < (l : Int) + (m : Int)) = true := dcT (by omega)
       have d1c : decide (60 < l + m) = true := dcT (by omega)
       go_wp2_with fail
       go_ret2
       exact ⟨none, 0, 0, [], 10, rfl, by omega, sli_nil _, HBW.out _ HB3.out, fun h => absurd h (by decide)⟩
      ·have d1 : decide ((l : Int) + (m : Int) > 60) = false := dcF (by omega)
       have d1b : decide (60 < (l : Int) + (m : Int)) = false := dcF (by omega)
       have d1c : decide (60 < l + m) = false := dcF (by omega)
       have hsr1 := Hd (sli_src (sli_take HS3.out))
       have O1 := Hd (one_ty (st.take l))
       have O2 := Hd (one_ty ys)
       have HLM : Hid (l + m ≤ 60) := Hd (by omega)
       go_wp2_with (first
         | (at_builtin; refine wpList_append_src _ rfl _ _ 32 rfl w3.heap.size 40 i0 (.int .i64 0) 1 8 Tryz.underlying32 hi0 hz0 hz1 hz2 rfl (by decide) (.slice none 0 0) 0 [] rfl (World.ownsRow_nil _ _ _ _) (some ⟨sb, so, none⟩) l _ _ rfl hsr1.out O1.out (by unfold maxLen; omega) (by omega) (Nat.le_refl _) ?_
            intro v1 w4 hown1 hgrow1 hat1
            rw [List.nil_append, Nat.zero_add] at hown1
            obtain ⟨B1, t1, rfl, o1, b1⟩ := app2 (Below.refl _ _) hown1 hgrow1 (fun j hj => by cases hj)
            have P1 := Hd o1
            have B1' := Hd b1
            have hsr2 := Hd (sli_src (HY3.out.on b1))
            have hs1 := B1'.out.size
            clear hown1 hgrow1 hat1 o1 b1)
         | (at_builtin; go_must (refine wpList_append_src _ rfl _ _ 32 rfl w3.heap.size 40 i0 (.int .i64 0) 1 8 Tryz.underlying32 hi0 hz0 hz1 hz2 rfl (by decide) _ _ _ rfl P1.out B m d _ rfl hsr2.out O2.out (by unfold maxLen; omega) (by omega) hs1 ?_)
            intro v2 w5 hown2 hgrow2 hat2
            obtain ⟨B2, t2, rfl, o2, b2⟩ := app2 B1'.out hown2 hgrow2 (fun j hj => (P1.out.lt j hj).1)
            have P2 := Hd o2
            have B2' := Hd b2
            clear hown2 hgrow2 hat2 o2 b2)
         | fail)
       go_ret2
       exact ⟨_, _, _, st.take l ++ ys, 0, rfl, by have := HLM.out; omega, SlR.of_ownN (sz := 1) (bytes := 8) (f := iC) (fun _ => rfl) (by omega) (by rw [List.flatMap_append]; first | exact P2.out | (have h := P2.out; simp only [Nat.zero_add] at h; exact h)) (by have := HLM.out; unfold reachBytes; omega), HBW.out _ (HB3.out.trans (B2'.out.mono HB3.out.size)), fun _ => ⟨st.take l, xs, ys, HNK.out (by trivial), by have := HSM.out (by trivial); rw [← this, List.take_append_drop], by have := HLM.out; have := HYL.out; rw [List.length_take]; omega, rfl⟩⟩
 ·have t0 : (r != 0) = true := by simpa using hr
  go_wp2_with fail
  go_ret2
  exact ⟨none, 0, 0, [], r, rfl, by omega, sli_nil _, HBW.out _ HB2.out, fun h => absurd h hr⟩
end Go.Proofs.YtobmjnmcjddhcaaGreat
