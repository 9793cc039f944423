/-
  Circles, the document's: the least of each, the order of those that stand for all.
-/
import Derived.Test.YtnfoahcdmaphnaaSc8
namespace Go.Proofs.Ytnfoahcdmaphnaa
open Go.RowKit
set_option linter.unusedSimpArgs false
set_option linter.unusedVariables false
theorem tg_iff {g : Gr} {i j : Nat} : Tg g i j ↔ i = j ∨ (Rp g i j ∧ Rp g j i) := by
  constructor
  · intro h
    by_cases e : i = j
    · exact .inl e
    · exact .inr ⟨Rp.of h.1 e, Rp.of h.2 (fun e2 => e e2.symm)⟩
  · rintro (rfl | ⟨h1, h2⟩)
    · exact Tg.refl g i
    · exact ⟨h1.rs, h2.rs⟩
def IsTog (g : Gr) (i j : Nat) (w : World) (e : Ending) (w' : World) : Prop := ∃ t : Bool, e = .returned (.bool t) ∧ (t = true ↔ Tg g i j) ∧ w = w'
set_option maxRecDepth 100000 in
set_option maxHeartbeats 4000000 in
theorem tog_any (base n : Nat) (A : Option Addr) (c : Nat) (rb : Nat → Nat) (r : Nat → Nat → Bool) (g : Gr) (i j : Nat) (w : World) (hM : MatW base n A n c rb r w) (hr : ∀ a b, r a b = true ↔ Rp g a b) (hi : i < n) (hj : j < n) (hnn : n ≤ 50) :
    Calls Try.prog 40 #[.slice A n c, .int .i64 (i : Int), .int .i64 (j : Int)] w (IsTog g i j w) := by
  obtain ⟨ra, rfl, x0, x1, _⟩ := hM.at_ hi hj
  obtain ⟨ra', e1, y0, y1, _⟩ := hM.at_ hj hi
  injection e1 with e1
  injection e1 with e1
  subst e1
  have hi0 : (0 : Int) ≤ (i : Int) := by omega
  have hj0 : (0 : Int) ≤ (j : Int) := by omega
  have hin : (i : Int) < (n : Int) := by omega
  have hjn : (j : Int) < (n : Int) := by omega
  have HR := Lib.hid hr
  clear hM hr
  by_cases hij : i = j
  · subst hij
    have t1 : ((i : Int) == (i : Int)) = true := by simp
    go_enter Try.func40, Try.ntmps40
    go_wp2_with fail
    go_ret
    exact ⟨true, rfl, ⟨fun _ => Tg.refl g i, fun _ => rfl⟩, rfl⟩
  · have t1 : ((i : Int) == (j : Int)) = false := by simp; omega
    have HIJ := Lib.hid hij
    cases h1 : r i j with
    | false =>
      rw [h1] at x1
      have HN : Hid (¬ Tg g i j) := Lib.hid (fun h => by
        rcases tg_iff.1 h with e | ⟨e, _⟩
        · exact hij e
        · rw [← HR.out, h1] at e; cases e)
      clear h1 hij
      go_enter Try.func40, Try.ntmps40
      go_wp2_with fail
      go_ret
      exact ⟨false, rfl, ⟨(fun h => by cases h), fun h => absurd h HN.out⟩, rfl⟩
    | true =>
      rw [h1] at x1
      cases h2 : r j i with
      | false =>
        rw [h2] at y1
        have HN : Hid (¬ Tg g i j) := Lib.hid (fun h => by
          rcases tg_iff.1 h with e | ⟨_, e⟩
          · exact hij e
          · rw [← HR.out, h2] at e; cases e)
        clear h1 h2 hij
        go_enter Try.func40, Try.ntmps40
        go_wp2_with fail
        go_ret
        exact ⟨false, rfl, ⟨(fun h => by cases h), fun h => absurd h HN.out⟩, rfl⟩
      | true =>
        rw [h2] at y1
        have HN : Hid (Tg g i j) := Lib.hid (tg_iff.2 (.inr ⟨(HR.out i j).1 h1, (HR.out j i).1 h2⟩))
        clear h1 h2 hij
        go_enter Try.func40, Try.ntmps40
        go_wp2_with fail
        go_ret
        exact ⟨true, rfl, ⟨fun _ => HN.out, fun _ => rfl⟩, rfl⟩
def lstL (l : Nat → Nat) (k : Nat) : List Nat := (List.range k).map l
theorem lstL_succ (l : Nat → Nat) (k v : Nat) : lstL l k ++ [v] = lstL (upd l k v) (k + 1) := by
  unfold lstL
  rw [List.range_succ, List.map_append]
  congr 1
  · apply List.map_congr_left
    intro i hi
    rw [upd_other _ _ (by have := List.mem_range.1 hi; omega)]
  · simp [upd_same]
def IsLeastD (g : Gr) (n : Nat) (w : World) (e : Ending) (w' : World) : Prop := ∃ (A : Option Addr) (c : Nat) (l : Nat → Nat), e = .returned (.slice A n c) ∧ w'.ownsRow w.heap.size 3 1 (.slice A n c) n (rowN (lstL l n)) ∧ LstF g l ∧ Below w.heap.size w w'
set_option maxRecDepth 100000 in
set_option maxHeartbeats 8000000 in
theorem rleast_any (GA : Option Addr) (n gc : Nat) (g : Gr) (w : World) (hG : GrW w w.heap.size GA n gc g) (hnn : n ≤ 50) (hrow : ∀ i, (rowG g i).length ≤ 60) :
    Calls Try.prog 33 #[.slice GA n gc] w (IsLeastD g n w) := by
  obtain ⟨i0, hi_, hz0, hz1, hz2⟩ := info_parts info_int
  have cC := Lib.hid (comes_any GA n gc g w hG hnn hrow)
  have HGL : Hid (g.length = n) := Lib.hid hG.1
  clear hG hrow
  go_enter Try.func33, Try.ntmps33
  go_wp2_with fail
  refine cC.out.mono ?_
  rintro e w1 ⟨RA, rc, rb, r, rfl, hM, hR, hb1⟩
  have HM := Lib.hid hM
  have HR := Lib.hid hR
  have HB1 := Lib.hid hb1
  clear hM hR hb1 cC
  go_wp2_with fail
  go_loopw [3, 5] (fun ov iv wr => ∃ (i : Nat) (A1 : Option Addr) (c1 : Nat) (l : Nat → Nat), ov = .slice A1 i c1 ∧ iv = .int .i64 i ∧ i ≤ n ∧ Hid (wr.ownsRow w1.heap.size 3 1 (.slice A1 i c1) i (rowN (lstL l i)) ∧ (∀ j, j < i → IsLst g j (l j)) ∧ Below w1.heap.size w1 wr)) (fun _ iv _ => n - (intOf iv).toNat)
  case atStart => exact ⟨0, none, 0, fun _ => 0, rfl, rfl, Nat.zero_le _, Lib.hid ⟨⟨rfl, .inl ⟨rfl, rfl⟩⟩, fun j hj => by omega, Below.refl _ _⟩⟩
  case round =>
    obtain ⟨i, A1, c1, l, rfl, rfl, hi, HK⟩ := hrel
    have HO := Lib.hid HK.out.1
    have HL := Lib.hid HK.out.2.1
    have HB := Lib.hid HK.out.2.2
    clear HK
    have hi0 : (0 : Int) ≤ (i : Int) := by omega
    have hib : (i : Int) ≤ 50 := by omega
    by_cases hlt : i < n
    · have hin : (i : Int) < (n : Int) := by omega
      have HZ : Hid (w1.heap.size ≤ wr.heap.size) := Lib.hid HB.out.size
      have HMR := Lib.hid (HM.out.on HB.out)
      go_wp2_with fail
      go_loop [6] (fun kv => ∃ k : Nat, kv = .int .i64 k ∧ k ≤ i ∧ Hid (∀ j, j < k → ¬ Tg g i j)) (fun kv => i - (intOf kv).toNat)
      case atStart => exact ⟨0, rfl, Nat.zero_le _, Lib.hid fun j hj => by omega⟩
      case round =>
        obtain ⟨k, rfl, hk, HK⟩ := hrel
        have hk0 : (0 : Int) ≤ (k : Int) := by omega
        have hkb : (k : Int) ≤ 50 := by omega
        have cT := Lib.hid (tog_any _ n RA rc rb r g i k wr HMR.out HR.out hlt (by omega) hnn)
        go_wp2_with fail
        refine cT.out.mono ?_
        rintro e w' ⟨t, rfl, ht, rfl⟩
        have HT := Lib.hid ht
        clear ht cT
        cases t with
        | false =>
          have HN : Hid (¬ Tg g i k) := Lib.hid (fun h => by have := HT.out.2 h; cases this)
          have hki : k < i := by
            by_cases e : k = i
            · subst e; exact absurd (Tg.refl g k) HN.out
            · omega
          have HN2 : Hid (∀ j, j < k + 1 → ¬ Tg g i j) := Lib.hid fun j hj => by
            by_cases e : j = k
            · subst e; exact HN.out
            · exact HK.out j (by omega)
          go_wp2_with fail
          go_round
          case rel => exact ⟨k + 1, by go_num, by omega, HN2⟩
          case measure => simp [intOf]; omega
        | true =>
          have HI : Hid (IsLst g i k) := Lib.hid ⟨HT.out.1 rfl, HK.out⟩
          have hsrc := Lib.hid (src_int wr (k : Int))
          go_wp2_with (first
            | (at_builtin; go_must (refine wpList_append_src _ rfl _ _ 31 rfl w1.heap.size 3 i0 (.int .i64 0) 1 8 Try.underlying31 hi_ hz0 hz1 hz2 rfl (by decide) _ _ _ rfl (HO.out.alloc _) (some ⟨wr.heap.size, 0, none⟩) 1 1 [.int .i64 (k : Int)] rfl hsrc.out (one_int (k : Int)) (by unfold maxLen; omega) (by omega) (by have := HZ.out; simp; omega) ?_)
               intro v' w3 hown' hgrow3 hat3
               obtain ⟨A', c', rfl, XO, XK, XA⟩ := push_hd hown' hgrow3 hat3
               have HN : Hid (w3.ownsRow w1.heap.size 3 1 (.slice A' (i + 1) c') (i + 1) (rowN (lstL (upd l i k) (i + 1))) ∧ (∀ j, j < i + 1 → IsLst g j (upd l i k j)) ∧ Below w1.heap.size w1 w3) := Lib.hid ⟨by rw [← lstL_succ]; exact XO, fun j hj => by
                 by_cases e : j = i
                 · subst e; rw [upd_same]; exact HI.out
                 · rw [upd_other _ _ e]; exact HL.out j (by omega), HB.out.trans (XK.below HZ.out (fun j hj => (HO.out.lt j hj).1))⟩
               clear XO XK XA hown' hgrow3 hat3)
            | fail)
          go_roundw
          case rel => exact ⟨i + 1, A', c', _, rfl, by go_num, by omega, HN⟩
          case measure => simp [intOf]; omega
    · obtain rfl : i = n := by omega
      go_wp2_with fail
      go_ret
      exact ⟨A1, c1, l, rfl, own_less HO.out HB1.out.size, fun v hv => HL.out v (by rw [← HGL.out]; exact hv), HB1.out.trans (HB.out.mono HB1.out.size)⟩
end Go.Proofs.Ytnfoahcdmaphnaa
