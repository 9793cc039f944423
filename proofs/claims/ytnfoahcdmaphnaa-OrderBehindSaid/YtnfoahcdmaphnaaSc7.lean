/-
  Circles: who belongs to a thing; whether it comes back to itself.
-/
import Derived.Test.YtnfoahcdmaphnaaSc6
namespace Go.Proofs.Ytnfoahcdmaphnaa
open Go.RowKit
set_option linter.unusedSimpArgs false
set_option linter.unusedVariables false
theorem contains_pre {ks : List Int} {k : Nat} {x v : Int} (hv : ks[k]? = some v) : (ks.take (k + 1)).contains x = ((ks.take k).contains x || x == v) := by
  rw [← take_snoc' ks k v hv, List.contains_eq_any_beq, List.contains_eq_any_beq, List.any_append]
  simp
def IsIdx (b : Bool) (w : World) (e : Ending) (w' : World) : Prop := ∃ i : Int, e = .returned (.int .i64 i) ∧ decide (i ≥ 0) = b ∧ w = w'
set_option maxRecDepth 100000 in
set_option maxHeartbeats 4000000 in
theorem kidx_any (A : Option Addr) (n c : Nat) (ks : List Int) (x : Int) (bq : Bool) (hbq : ks.contains x = bq) (w : World) (h : SlI w w.heap.size A n c ks) (hn : n ≤ 100) :
    Calls Try.prog 38 #[.slice A n c, .int .i64 x] w (IsIdx bq w) := by
  have HQ := Lib.hid hbq
  clear hbq
  have H := Lib.hid h
  have HL : Hid (ks.length = n) := Lib.hid h.1
  clear h
  go_enter Try.func38, Try.ntmps38
  go_wp2_with fail
  go_loop [8] (fun i => ∃ k : Nat, i = .int .i64 k ∧ k ≤ n ∧ Hid ((ks.take k).contains x = false)) (fun i => n - (intOf i).toNat)
  case atStart => exact ⟨0, rfl, Nat.zero_le _, Lib.hid (by simp)⟩
  case round =>
    obtain ⟨k, rfl, hk, hC⟩ := hrel
    have hk0 : (0 : Int) ≤ (k : Int) := by omega
    by_cases hlt : k < n
    · have hkn : (k : Int) < (n : Int) := by omega
      have hkb : (k : Int) ≤ 100 := by omega
      obtain ⟨b, off, v, rfl, hb, hv, hc⟩ := SlR.cell1 (f := Value.int .i64) H.out hlt
      have HP : Hid ((ks.take (k + 1)).contains x = (x == v)) := Lib.hid (by rw [contains_pre hv, hC.out, Bool.false_or])
      have HI : Hid (v ∈ ks) := Lib.hid (List.mem_of_getElem? hv)
      clear hv hb
      by_cases e : x = v
      · subst e
        have HC : Hid (ks.contains x = true) := Lib.hid (by simpa using HI.out)
        have t1 : (x == x) = true := by simp
        go_wp2_with fail
        go_ret
        exact ⟨(k : Int), rfl, by have h1 := HQ.out; rw [HC.out] at h1; rw [← h1]; simp, rfl⟩
      · have t1 : (x == v) = false := by simpa using e
        have HP2 : Hid ((ks.take (k + 1)).contains x = false) := Lib.hid (by rw [HP.out, t1])
        clear e HP HI
        go_wp2_with fail
        go_round
        case rel => exact ⟨k + 1, by go_num, by omega, HP2⟩
        case measure => simp [intOf]; omega
    · obtain rfl : k = n := by omega
      have HC : Hid (ks.contains x = false) := Lib.hid (by have h1 := hC.out; rw [List.take_of_length_le (by have := HL.out; omega)] at h1; exact h1)
      go_wp2_with fail
      go_ret
      exact ⟨-1, rfl, by have h1 := HQ.out; rw [HC.out] at h1; rw [← h1]; rfl, rfl⟩
set_option maxRecDepth 100000 in
theorem kcon_any (A : Option Addr) (n c : Nat) (ks : List Int) (x : Int) (w : World) (h : SlI w w.heap.size A n c ks) (hn : n ≤ 100) :
    Calls Try.prog 29 #[.slice A n c, .int .i64 x] w fun e w' => e = .returned (.bool (ks.contains x)) ∧ w = w' := by
  obtain ⟨b, hb⟩ : ∃ b, ks.contains x = b := ⟨_, rfl⟩
  have cI := Lib.hid (kidx_any A n c ks x b hb w h hn)
  rw [hb]
  clear h hb
  go_enter Try.func29, Try.ntmps29
  go_wp2_with fail
  refine cI.out.mono ?_
  rintro e w' ⟨i, rfl, rfl, rfl⟩
  go_wp2_with fail
  go_ret
  exact ⟨rfl, rfl⟩

def memL (n : Nat) (l : Nat → Nat) (x : Nat) : List Nat := (List.range n).filter fun i => l i == l x
def memU (k : Nat) (l : Nat → Nat) (x : Nat) : List Nat := (List.range k).filter fun i => l i == l x
theorem memU_yes {k x : Nat} {l : Nat → Nat} (h : l k = l x) : memU k l x ++ [k] = memU (k + 1) l x := by
  unfold memU
  rw [List.range_succ, List.filter_append]
  simp [h]
theorem memU_no {k x : Nat} {l : Nat → Nat} (h : l k ≠ l x) : memU k l x = memU (k + 1) l x := by
  unfold memU
  rw [List.range_succ, List.filter_append]
  simp [h]
theorem memU_len (k : Nat) (l : Nat → Nat) (x : Nat) : (memU k l x).length ≤ k := by
  unfold memU
  have := List.length_filter_le (fun i => l i == l x) (List.range k)
  simpa using this
theorem nodup_one {x : Nat} : ∀ {L : List Nat}, L.Nodup → (∀ u ∈ L, u = x) → L.length ≤ 1
  | [], _, _ => by simp
  | [_], _, _ => by simp
  | a :: b :: t, hnd, hall => by
    have e1 := hall a (by simp)
    have e2 := hall b (by simp)
    rw [e1, e2] at hnd
    simp at hnd
theorem mem_more {n x : Nat} {l : Nat → Nat} (hx : x < n) : 1 < (memU n l x).length ↔ ∃ u, u < n ∧ u ≠ x ∧ l u = l x := by
  have hmem : ∀ u, u ∈ memU n l x ↔ u < n ∧ l u = l x := fun u => by unfold memU; simp
  have hnd : (memU n l x).Nodup := List.Pairwise.filter _ List.nodup_range
  constructor
  · intro h
    refine Classical.byContradiction fun hn => ?_
    have hall : ∀ u ∈ memU n l x, u = x := fun u hu => Classical.byContradiction fun he => hn ⟨u, ((hmem u).1 hu).1, he, ((hmem u).1 hu).2⟩
    have := nodup_one hnd hall
    omega
  · rintro ⟨u, hu, hne, he⟩
    have h1 := (hmem u).2 ⟨hu, he⟩
    have h2 := (hmem x).2 ⟨hx, rfl⟩
    revert h1 h2
    generalize memU n l x = L
    intro h1 h2
    match L, h1, h2 with
    | [a], h1, h2 =>
      simp at h1 h2
      omega
    | a :: b :: t, _, _ => simp
theorem circle_iff {g : Gr} {l : Nat → Nat} (hl : LstF g l) {x : Nat} (hx : x < g.length) : Rp g x x ↔ 1 < (memU g.length l x).length ∨ (x : Int) ∈ rowG g x := by
  rw [mem_more hx]
  constructor
  · rintro ⟨m, hE, hr⟩
    by_cases e : m = x
    · subst e
      exact .inr hE.2
    · exact .inl ⟨m, hE.1, e, (hl.eq hx hE.1 ⟨.one hE, hr⟩).symm⟩
  · rintro (⟨u, hu, hne, he⟩ | h)
    · have ht := hl.tg hx hu he.symm
      exact (Rp.of ht.1 (fun e => hne e.symm)).trans ht.2
    · exact ⟨x, ⟨hx, h⟩, .refl x⟩
def IsMem (g : Gr) (x n : Nat) (w : World) (e : Ending) (w' : World) : Prop := ∃ (A : Option Addr) (m c : Nat) (l : Nat → Nat), e = .returned (.slice A m c) ∧ LstF g l ∧ m = (memU n l x).length ∧ Below w.heap.size w w'
set_option maxRecDepth 100000 in
set_option maxHeartbeats 8000000 in
theorem members_any (GA : Option Addr) (n gc : Nat) (g : Gr) (x : Nat) (w : World) (hG : GrW w w.heap.size GA n gc g) (hnn : n ≤ 50) (hrow : ∀ i, (rowG g i).length ≤ 60) (hx : x < n) :
    Calls Try.prog 28 #[.slice GA n gc, .int .i64 (x : Int)] w (IsMem g x n w) := by
  obtain ⟨i0, hi, hz0, hz1, hz2⟩ := info_parts info_int
  have cI := Lib.hid (sis_any GA n gc (x : Int) true (by simp; omega) w)
  have cL := Lib.hid (least_any GA n gc g w hG hnn hrow)
  have HX := Lib.hid hx
  have hx0 : (0 : Int) ≤ (x : Int) := by omega
  have hxn : (x : Int) < (n : Int) := by omega
  clear hG hrow hx
  go_enter Try.func28, Try.ntmps28
  go_wp2_with fail
  refine cI.out.mono ?_
  rintro e w' ⟨rfl, rfl⟩
  go_wp2_with fail
  refine cL.out.mono ?_
  rintro e w1 ⟨h, l, rfl, hl, hc, hh1, hb1⟩
  have HL := Lib.hid hl
  have HH := Lib.hid hc
  have HB1 := Lib.hid hb1
  clear hl hc hh1 hb1 cL cI
  go_wp2_with fail
  go_loopw [5, 17] (fun ov i wr => ∃ (k m : Nat) (A1 : Option Addr) (c1 : Nat), ov = .slice A1 m c1 ∧ i = .int .i64 k ∧ k ≤ n ∧ m ≤ k ∧ Hid (wr.ownsRow w1.heap.size 3 1 (.slice A1 m c1) m (rowN (memU k l x)) ∧ Below w1.heap.size w1 wr)) (fun _ i _ => n - (intOf i).toNat)
  case atStart => exact ⟨0, 0, none, 0, rfl, rfl, Nat.zero_le _, Nat.le_refl _, Lib.hid ⟨⟨rfl, .inl ⟨rfl, rfl⟩⟩, Below.refl _ _⟩⟩
  case round =>
    obtain ⟨k, m, A1, c1, rfl, rfl, hk, hm, HK⟩ := hrel
    have HO := Lib.hid HK.out.1
    have HB := Lib.hid HK.out.2
    clear HK
    have hk0 : (0 : Int) ≤ (k : Int) := by omega
    have hkb : (k : Int) ≤ 50 := by omega
    by_cases hlt : k < n
    · have hkn : (k : Int) < (n : Int) := by omega
      have l0 : wr.cell? ⟨h, k, none⟩ = some (.int .i64 (l k : Int)) := (HH.out.on HB.out).at_ _ _ (arrC_at _ hlt)
      have l1 : wr.cell? ⟨h, x, none⟩ = some (.int .i64 (l x : Int)) := (HH.out.on HB.out).at_ _ _ (arrC_at _ HX.out)
      have HZ : Hid (w1.heap.size ≤ wr.heap.size) := Lib.hid HB.out.size
      by_cases he : l k = l x
      · have t1 : ((l k : Int) == (l x : Int)) = true := by simp [he]
        have t1' : ((l x : Int) == (l x : Int)) = true := by simp
        have HE := Lib.hid (memU_yes he)
        have hsrc := Lib.hid (src_int wr (k : Int))
        clear he
        go_wp2_with (first
          | (at_builtin; go_must (refine wpList_append_src _ rfl _ _ 31 rfl w1.heap.size 3 i0 (.int .i64 0) 1 8 Try.underlying31 hi hz0 hz1 hz2 rfl (by decide) _ _ _ rfl (HO.out.alloc _) (some ⟨wr.heap.size, 0, none⟩) 1 1 [.int .i64 (k : Int)] rfl hsrc.out (one_int (k : Int)) (by unfold maxLen; omega) (by omega) (by have := HZ.out; simp; omega) ?_)
             intro v' w3 hown' hgrow3 hat3
             obtain ⟨A', c', rfl, XO, XK, XA⟩ := push_hd hown' hgrow3 hat3
             have HN : Hid (w3.ownsRow w1.heap.size 3 1 (.slice A' (m + 1) c') (m + 1) (rowN (memU (k + 1) l x)) ∧ Below w1.heap.size w1 w3) := Lib.hid ⟨by rw [← HE.out]; exact XO, HB.out.trans (XK.below HZ.out (fun j hj => (HO.out.lt j hj).1))⟩
             clear XO XK XA hown' hgrow3 hat3)
          | fail)
        go_roundw
        case rel => exact ⟨k + 1, m + 1, A', c', rfl, by go_num, by omega, by omega, HN⟩
        case measure => simp [intOf]; omega
      · have t1 : ((l k : Int) == (l x : Int)) = false := by simp; omega
        have HE := Lib.hid (memU_no he)
        clear he
        go_wp2_with fail
        go_roundw
        case rel => exact ⟨k + 1, m, A1, c1, rfl, by go_num, by omega, by omega, Lib.hid ⟨by rw [← HE.out]; exact HO.out, HB.out⟩⟩
        case measure => simp [intOf]; omega
    · obtain rfl : k = n := by omega
      go_wp2_with fail
      go_ret
      have h1 := HO.out.1
      unfold rowN at h1
      rw [List.length_map] at h1
      exact ⟨A1, m, c1, l, rfl, HL.out, by omega, HB1.out.trans (HB.out.mono HB1.out.size)⟩
def IsCir (g : Gr) (x : Nat) (w : World) (e : Ending) (w' : World) : Prop := ∃ r : Bool, e = .returned (.bool r) ∧ (r = true ↔ Rp g x x) ∧ Below w.heap.size w w'
set_option maxRecDepth 100000 in
set_option maxHeartbeats 8000000 in
theorem circle_any (GA : Option Addr) (n gc : Nat) (g : Gr) (x : Nat) (w : World) (hG : GrW w w.heap.size GA n gc g) (hnn : n ≤ 50) (hrow : ∀ i, (rowG g i).length ≤ 60) (hx : x < n) :
    Calls Try.prog 19 #[.slice GA n gc, .int .i64 (x : Int)] w (IsCir g x w) := by
  have cI := Lib.hid (sis_any GA n gc (x : Int) true (by simp; omega) w)
  have cM := Lib.hid (members_any GA n gc g x w hG hnn hrow hx)
  have HG : Hid (∀ W, Below w.heap.size w W → GrW W w.heap.size GA n gc g) := Lib.hid fun W hW => hG.keep hW
  have HGL : Hid (g.length = n) := Lib.hid hG.1
  have HROW := Lib.hid hrow
  have HX := Lib.hid hx
  have hx0 : (0 : Int) ≤ (x : Int) := by omega
  have hxn : (x : Int) < (n : Int) := by omega
  clear hG hrow hx
  go_enter Try.func19, Try.ntmps19
  go_wp2_with fail
  refine cI.out.mono ?_
  rintro e w' ⟨rfl, rfl⟩
  go_wp2_with fail
  refine cM.out.mono ?_
  rintro e w1 ⟨A, m, c, l, rfl, hl, hm, hb1⟩
  have HIF : Hid (Rp g x x ↔ 1 < m ∨ (x : Int) ∈ rowG g x) := Lib.hid (by rw [circle_iff hl (by rw [HGL.out]; exact HX.out), HGL.out, hm])
  have HB1 := Lib.hid hb1
  clear hl hm hb1 cM cI
  by_cases h1 : 1 < m
  · have t1 : decide ((m : Int) > 1) = true := by simp; omega
    have t1' : (1 : Int) < (m : Int) := by omega
    go_wp2_with fail
    go_ret
    exact ⟨true, rfl, ⟨fun _ => HIF.out.2 (.inl h1), fun _ => rfl⟩, HB1.out⟩
  · have t1 : decide ((m : Int) > 1) = false := by simp; omega
    have t1' : ¬ (1 : Int) < (m : Int) := by omega
    obtain ⟨bg, og, Ar, nr, cr, rfl, hbg, hgc, hrw⟩ := (HG.out w1 HB1.out).row HX.out
    have cC := Lib.hid (kcon_any Ar nr cr (rowG g x) (x : Int) w1 (hrw.more HB1.out.size) (by have := HROW.out x; have := hrw.1; omega))
    clear hrw
    obtain ⟨r, hr⟩ : ∃ r, (rowG g x).contains (x : Int) = r := ⟨_, rfl⟩
    have HR := Lib.hid hr
    rw [hr] at cC
    clear hr
    have HN := Lib.hid h1
    clear h1
    go_wp2_with fail
    refine cC.out.mono ?_
    rintro e w' ⟨rfl, rfl⟩
    go_wp2_with fail
    go_ret
    refine ⟨r, rfl, ?_, HB1.out⟩
    rw [HIF.out, ← HR.out]
    constructor
    · intro h
      exact .inr (by simpa using h)
    · rintro (h | h)
      · exact absurd h HN.out
      · simpa using h
end Go.Proofs.Ytnfoahcdmaphnaa
