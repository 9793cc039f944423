/-
  Circles: those that stand for all, in the program's order.
-/
import Derived.Test.YtnfoahcdmaphnaaSc4
namespace Go.Proofs.Ytnfoahcdmaphnaa
open Go.RowKit
set_option linter.unusedSimpArgs false
set_option linter.unusedVariables false
/-- The truths of a function as cells. -/
def arrB (n : Nat) (f : Nat → Bool) : List Value := (List.range n).map fun i => Value.bool (f i)
theorem arrB_len (n : Nat) (f : Nat → Bool) : (arrB n f).length = n := by simp [arrB]
theorem arrB_at {n i : Nat} (f : Nat → Bool) (hi : i < n) : (arrB n f)[i]? = some (.bool (f i)) := by
  simp [arrB, hi]
theorem arrB_set {n i : Nat} (f : Nat → Bool) (v : Bool) : (arrB n f).set i (.bool v) = arrB n (upd f i v) := by
  apply List.ext_getElem?
  intro j
  by_cases hj : j < n
  · rw [arrB_at _ hj]
    by_cases e : j = i
    · subst e
      rw [List.getElem?_set_self (by rw [arrB_len]; exact hj), upd_same]
    · rw [List.getElem?_set_ne (fun h => e h.symm), arrB_at _ hj, upd_other _ _ e]
  · rw [List.getElem?_eq_none (by simp [arrB_len]; omega), List.getElem?_eq_none (by simp [arrB_len]; omega)]
def FreeAt (g : Gr) (l : Nat → Nat) (d : Nat → Bool) (n i k : Nat) : Prop := l i = n → ∀ u : Nat, u < g.length → (u : Int) ∈ (rowG g i).take k → l u ≠ n → d (l u) = true
def FreeUp (g : Gr) (l : Nat → Nat) (d : Nat → Bool) (n i : Nat) : Prop := ∀ i', i' < i → FreeAt g l d n i' (rowG g i').length
theorem FreeUp.full {g : Gr} {l : Nat → Nat} {d : Nat → Bool} {n : Nat} : FreeUp g l d n g.length ↔ FreeP g l d n := by
  constructor
  · intro h i u hi hl hE hne
    exact h i hi hl u hE.1 (by rw [List.take_length]; exact hE.2) hne
  · intro h i hi hl u hu hm hne
    rw [List.take_length] at hm
    exact h i u hi hl ⟨hu, hm⟩ hne
theorem FreeUp.succ {g : Gr} {l : Nat → Nat} {d : Nat → Bool} {n i : Nat} (h : FreeUp g l d n i) (hk : FreeAt g l d n i (rowG g i).length) : FreeUp g l d n (i + 1) := fun i' hi' => by
  by_cases e : i' = i
  · subst e; exact hk
  · exact h i' (by omega)
def IsFree (g : Gr) (l : Nat → Nat) (d : Nat → Bool) (n : Nat) (w : World) (e : Ending) (w' : World) : Prop := ∃ r : Bool, e = .returned (.bool r) ∧ (r = true ↔ FreeP g l d n) ∧ w = w'
set_option maxRecDepth 100000 in
set_option maxHeartbeats 8000000 in
theorem free_any (GA : Option Addr) (n gc h db : Nat) (g : Gr) (l : Nat → Nat) (d : Nat → Bool) (B x : Nat) (w : World) (hG : GrW w B GA n gc g) (hnn : n ≤ 50) (hrow : ∀ i, (rowG g i).length ≤ 60) (hl : LstF g l)
    (hh : Cells w h (arrC n fun i => (l i : Int))) (hd : Cells w db (arrB n d)) :
    Calls Try.prog 31 #[.slice GA n gc, .slice (some ⟨h, 0, none⟩) n n, .slice (some ⟨db, 0, none⟩) n n, .int .i64 (x : Int)] w (IsFree g l d x w) := by
  have HG := Lib.hid hG
  have HGL : Hid (g.length = n) := Lib.hid hG.1
  have HROW := Lib.hid hrow
  have HL := Lib.hid hl
  have HH := Lib.hid hh
  have HD := Lib.hid hd
  clear hG hrow hl hh hd
  go_enter Try.func31, Try.ntmps31
  go_wp2_with fail
  go_loop [15] (fun i => ∃ k : Nat, i = .int .i64 k ∧ k ≤ n ∧ Hid (FreeUp g l d x k)) (fun i => n - (intOf i).toNat)
  case atStart => exact ⟨0, rfl, Nat.zero_le _, Lib.hid fun i hi => by omega⟩
  case round =>
    obtain ⟨i, rfl, hi, HF⟩ := hrel
    have hi0 : (0 : Int) ≤ (i : Int) := by omega
    have hib : (i : Int) ≤ 50 := by omega
    by_cases hlt : i < n
    · have hin : (i : Int) < (n : Int) := by omega
      have l0 : w.cell? ⟨h, i, none⟩ = some (.int .i64 (l i : Int)) := HH.out.at_ _ _ (arrC_at _ hlt)
      obtain ⟨bg, og, Ar, nr, cr, rfl, hbg, hgc, hrw⟩ := HG.out.row hlt
      have HRW := Lib.hid hrw
      have HRL : Hid ((rowG g i).length = nr) := Lib.hid hrw.1
      have hnr : (nr : Int) ≤ 60 := by have := HROW.out i; have := HRL.out; omega
      have HLT := Lib.hid hlt
      clear hrw
      by_cases hk : l i = x
      · have t1 : ((l i : Int) != (x : Int)) = false := by simp [hk]
        have t2 : ((x : Int) != (x : Int)) = false := by simp
        have HK := Lib.hid hk
        clear hk
        go_wp2_with fail
        go_loop [28] (fun j => ∃ k : Nat, j = .int .i64 k ∧ k ≤ nr ∧ Hid (FreeAt g l d x i k)) (fun j => nr - (intOf j).toNat)
        case atStart => exact ⟨0, rfl, Nat.zero_le _, Lib.hid fun _ u hu hm => by simp at hm⟩
        case round =>
          obtain ⟨j, rfl, hj, HA⟩ := hrel
          have hj0 : (0 : Int) ≤ (j : Int) := by omega
          have hjb : (j : Int) ≤ 60 := by omega
          by_cases hjlt : j < nr
          · have hjn : (j : Int) < (nr : Int) := by omega
            obtain ⟨b2, o2, tv, rfl, hb2, htv, hct⟩ := SlR.cell1 (f := Value.int .i64) HRW.out hjlt
            have HT := Lib.hid htv
            clear htv
            have HSKIP : Hid ((∀ u : Nat, u < g.length → (u : Int) = tv → l u ≠ x → d (l u) = true) → FreeAt g l d x i (j + 1)) := Lib.hid (fun h2 hli u hu hm hne => by
              rw [take_next HT.out] at hm
              rcases mem_last hm with hm | hm
              · exact HA.out hli u hu hm hne
              · exact h2 u hu hm hne)
            by_cases htr : 0 ≤ tv ∧ tv < (n : Int)
            · obtain ⟨t, rfl⟩ : ∃ t : Nat, tv = (t : Int) := ⟨tv.toNat, by omega⟩
              have cI := Lib.hid (sis_any (some ⟨bg, og, none⟩) n gc (t : Int) true (by rw [eq_comm, decide_eq_true_eq]; exact htr) w)
              have htn : t < n := by omega
              have hlt2 : l t < n := by have := HL.out.lt (v := t) (by have := HGL.out; omega); have := HGL.out; omega
              have m0 : w.cell? ⟨h, t, none⟩ = some (.int .i64 (l t : Int)) := HH.out.at_ _ _ (arrC_at _ htn)
              have d0 : w.cell? ⟨db, l t, none⟩ = some (.bool (d (l t))) := HD.out.at_ _ _ (arrB_at _ hlt2)
              have ht0 : (0 : Int) ≤ (t : Int) := by omega
              have htn1 : (t : Int) < (n : Int) := by omega
              have hlt0 : (0 : Int) ≤ (l t : Int) := by omega
              have hltn : (l t : Int) < (n : Int) := by omega
              have HTN : Hid (t < g.length) := Lib.hid (by have := HGL.out; omega)
              clear htr htn hlt2
              by_cases hlx : l t = x
              · have t3 : ((l t : Int) != (x : Int)) = false := by simp [hlx]
                have t4 : ((x : Int) != (x : Int)) = false := by simp
                have HN := Lib.hid (HSKIP.out (fun u hu e hne => by have e2 : u = t := by omega
                                                                    rw [e2] at hne
                                                                    exact absurd hlx hne))
                clear hlx
                go_wp2_with fail
                refine cI.out.mono ?_
                rintro e w' ⟨rfl, rfl⟩
                go_wp2_with fail
                go_round
                case rel => exact ⟨j + 1, by go_num, by omega, HN⟩
                case measure => simp [intOf]; omega
              · have t3 : ((l t : Int) != (x : Int)) = true := by simp; omega
                cases hdt : d (l t) with
                | true =>
                  rw [hdt] at d0
                  have HN := Lib.hid (HSKIP.out (fun u hu e hne => by have e2 : u = t := by omega
                                                                      rw [e2]
                                                                      exact hdt))
                  clear hlx hdt
                  go_wp2_with fail
                  refine cI.out.mono ?_
                  rintro e w' ⟨rfl, rfl⟩
                  go_wp2_with fail
                  go_round
                  case rel => exact ⟨j + 1, by go_num, by omega, HN⟩
                  case measure => simp [intOf]; omega
                | false =>
                  rw [hdt] at d0
                  have HN : Hid (¬ FreeP g l d x) := Lib.hid (fun hf => by
                    have := hf i t (by have := HGL.out; have := HLT.out; omega) HK.out ⟨HTN.out, List.mem_of_getElem? HT.out⟩ hlx
                    rw [hdt] at this
                    cases this)
                  clear hlx hdt
                  go_wp2_with fail
                  refine cI.out.mono ?_
                  rintro e w' ⟨rfl, rfl⟩
                  go_wp2_with fail
                  go_ret
                  exact ⟨false, rfl, ⟨(fun h => by cases h), fun h => absurd h HN.out⟩, rfl⟩
            · have cI := Lib.hid (sis_any (some ⟨bg, og, none⟩) n gc tv false (by rw [eq_comm, decide_eq_false_iff_not]; exact htr) w)
              have HN := Lib.hid (HSKIP.out (fun u hu e => absurd (by have := HGL.out; omega) htr))
              clear htr
              go_wp2_with fail
              refine cI.out.mono ?_
              rintro e w' ⟨rfl, rfl⟩
              go_wp2_with fail
              go_round
              case rel => exact ⟨j + 1, by go_num, by omega, HN⟩
              case measure => simp [intOf]; omega
          · obtain rfl : j = nr := by omega
            have HN : Hid (FreeUp g l d x (i + 1)) := Lib.hid (HF.out.succ (by rw [HRL.out]; exact HA.out))
            go_wp2_with fail
            go_round
            case rel => exact ⟨i + 1, by go_num, by omega, HN⟩
            case measure => simp [intOf]; omega
      · have t1 : ((l i : Int) != (x : Int)) = true := by simp; omega
        have HN : Hid (FreeUp g l d x (i + 1)) := Lib.hid (HF.out.succ (fun h => absurd h hk))
        clear hk
        go_wp2_with fail
        go_round
        case rel => exact ⟨i + 1, by go_num, by omega, HN⟩
        case measure => simp [intOf]; omega
    · obtain rfl : i = n := by omega
      have HN : Hid (FreeP g l d x) := Lib.hid (FreeUp.full.1 (by rw [HGL.out]; exact HF.out))
      go_wp2_with fail
      go_ret
      exact ⟨true, rfl, ⟨fun _ => HN.out, fun _ => rfl⟩, rfl⟩
end Go.Proofs.Ytnfoahcdmaphnaa
