/-
  Circles, the document's: by which steps one comes to another (a table of tables).
-/
import Derived.Test.YtnfoahcdmaphnaaSc7
namespace Go.Proofs.Ytnfoahcdmaphnaa
open Go.RowKit
set_option linter.unusedSimpArgs false
set_option linter.unusedVariables false
theorem arrB_congr {n : Nat} {f f' : Nat → Bool} (h : ∀ i, i < n → f i = f' i) : arrB n f = arrB n f' := by
  unfold arrB
  apply List.map_congr_left
  intro i hi
  rw [h i (List.mem_range.1 hi)]
def rowsM (n k : Nat) (rb : Nat → Nat) : List Value := (List.range k).map fun i => Value.slice (some ⟨rb i, 0, none⟩) n n
theorem rowsM_at {n k i : Nat} (rb : Nat → Nat) (hi : i < k) : (rowsM n k rb)[i]? = some (.slice (some ⟨rb i, 0, none⟩) n n) := by
  simp [rowsM, hi]
theorem rowsM_succ (n k : Nat) (rb : Nat → Nat) (b : Nat) : rowsM n k rb ++ [.slice (some ⟨b, 0, none⟩) n n] = rowsM n (k + 1) (upd rb k b) := by
  unfold rowsM
  rw [List.range_succ, List.map_append]
  congr 1
  · apply List.map_congr_left
    intro i hi
    rw [upd_other _ _ (by have := List.mem_range.1 hi; omega)]
  · simp [upd_same]
/-- A table of truths. -/
structure MatW (base n : Nat) (A : Option Addr) (k c : Nat) (rb : Nat → Nat) (r : Nat → Nat → Bool) (W : World) : Prop where
  own : W.ownsRow base 55 1 (.slice A k c) k (rowsM n k rb)
  rows : ∀ i, i < k → Cells W (rb i) (arrB n (r i)) ∧ base ≤ rb i
  dist : ∀ i j, i < k → j < k → i ≠ j → rb i ≠ rb j
  ap : ∀ i, i < k → (Value.slice A k c).ownBlock ≠ some (rb i)
theorem MatW.kp {base n : Nat} {A : Option Addr} {k c : Nat} {rb : Nat → Nat} {r : Nat → Nat → Bool} {S : Nat → Prop} {W W' : World} (h : MatW base n A k c rb r W) (hk : Kp S W W') (hS : ∀ j, S j → (∀ i, i < k → rb i ≠ j) ∧ (Value.slice A k c).ownBlock ≠ some j) : MatW base n A k c rb r W' :=
  ⟨hk.own h.own (fun j hj hs => (hS j hs).2 hj), fun i hi => ⟨(h.rows i hi).1.kp hk (fun hs => (hS _ hs).1 i hi rfl), (h.rows i hi).2⟩, h.dist, h.ap⟩
theorem MatW.on {base n : Nat} {A : Option Addr} {k c : Nat} {rb : Nat → Nat} {r : Nat → Nat → Bool} {W W' : World} (h : MatW base n A k c rb r W) (hb : Below W.heap.size W W') : MatW base n A k c rb r W' :=
  h.kp ((Kp.refl (fun _ => False) W).ofBelow hb) fun _ h => h.elim
theorem MatW.put {base n : Nat} {A : Option Addr} {k c : Nat} {rb : Nat → Nat} {r : Nat → Nat → Bool} {W : World} (h : MatW base n A k c rb r W) {i j : Nat} (hi : i < k) (hj : j < n) : MatW base n A k c rb (upd2 r i j true) (W.setCell ⟨rb i, j, none⟩ (.bool true)) := by
  refine ⟨(kp_set W _ _ _).own h.own (fun b hb e => h.ap i hi (by have e' : b = rb i := e; rw [← e']; exact hb)), fun a ha => ⟨?_, (h.rows a ha).2⟩, h.dist, h.ap⟩
  by_cases e : a = i
  · subst e
    have h1 := (h.rows a ha).1.put j (by rw [arrB_len]; exact hj) (.bool true)
    rw [arrB_set] at h1
    have e2 : upd (r a) j true = upd2 r a j true a := by
      funext b
      by_cases eb : b = j
      · subst eb; simp [upd_same, upd2]
      · rw [upd_other _ _ eb]; simp [upd2, eb]
    rw [← e2]
    exact h1
  · have e2 : upd2 r i j true a = r a := by
      funext b
      simp [upd2, e]
    rw [e2]
    exact (h.rows a ha).1.far (h.dist a i ha hi e) _
theorem MatW.at_ {base n : Nat} {A : Option Addr} {k c : Nat} {rb : Nat → Nat} {r : Nat → Nat → Bool} {W : World} (h : MatW base n A k c rb r W) {i j : Nat} (hi : i < k) (hj : j < n) : ∃ ra, A = some ⟨ra, 0, none⟩ ∧ W.cell? ⟨ra, i, none⟩ = some (.slice (some ⟨rb i, 0, none⟩) n n) ∧ W.cell? ⟨rb i, j, none⟩ = some (.bool (r i j)) ∧ W.frozen? ⟨rb i, j, none⟩ = false := by
  rcases h.own.2 with ⟨hv, rfl⟩ | ⟨g, cap, cur, hv, _⟩
  · omega
  · simp only [Value.slice.injEq, true_and] at hv
    obtain ⟨rfl, rfl⟩ := hv
    have h1 := h.own.cells (g := g) rfl i _ (rowsM_at rb hi)
    rw [add_zero_at] at h1
    exact ⟨g, rfl, h1, (h.rows i hi).1.at_ _ _ (arrB_at _ hj), (h.rows i hi).1.fz _ (by rw [arrB_len]; exact hj)⟩
theorem MatW.push {base n : Nat} {A : Option Addr} {k c : Nat} {rb : Nat → Nat} {r : Nat → Nat → Bool} {W w3 : World} (h : MatW base n A k c rb r W) {b : Nat} {f : Nat → Bool} (hb : Cells W b (arrB n f)) (hbb : base ≤ b) (hne : ∀ i, i < k → rb i ≠ b) (hna : (Value.slice A k c).ownBlock ≠ some b) {v' : Value} {o : Obj}
    (hown' : w3.ownsRow base 55 1 v' (k + 1) (rowsM n k rb ++ [.slice (some ⟨b, 0, none⟩) n n])) (hgrow : (W.alloc o).grownBy w3 (Value.slice A k c).ownBlock) (hat : v'.ownBlock = (Value.slice A k c).ownBlock ∨ v'.ownBlock = some (W.alloc o).heap.size) :
    ∃ A' c', v' = .slice A' (k + 1) c' ∧ MatW base n A' (k + 1) c' (upd rb k b) (fun i => if i = k then f else r i) w3 ∧ Kp (fun j => (Value.slice A k c).ownBlock = some j) W w3 := by
  rw [rowsM_succ] at hown'
  obtain ⟨A', c', rfl, _⟩ := own_form hown'
  have hk : Kp (fun j => (Value.slice A k c).ownBlock = some j) W w3 := ((Kp.refl _ W).alloc o).ofGrown hgrow fun k hk _ => hk
  refine ⟨A', c', rfl, ⟨hown', fun i hi => ?_, fun i j hi hj hij => ?_, fun i hi e => ?_⟩, hk⟩
  · by_cases e : i = k
    · subst e
      rw [upd_same, if_pos rfl]
      exact ⟨hb.kp hk (fun e => hna e), hbb⟩
    · rw [upd_other _ _ e, if_neg e]
      exact ⟨(h.rows i (by omega)).1.kp hk (fun e => h.ap i (by omega) e), (h.rows i (by omega)).2⟩
  · by_cases e : i = k
    · subst e
      rw [upd_same, upd_other _ _ (by omega)]
      exact fun e => hne j (by omega) e.symm
    · rw [upd_other _ _ e]
      by_cases e2 : j = k
      · subst e2
        rw [upd_same]
        exact hne i (by omega)
      · rw [upd_other _ _ e2]
        exact h.dist i j (by omega) (by omega) hij
  · have hlt : upd rb k b i < W.heap.size := by
      by_cases e : i = k
      · subst e; rw [upd_same]; exact hb.lt
      · rw [upd_other _ _ e]; exact (h.rows i (by omega)).1.lt
    rw [e] at hat
    rcases hat with e1 | e1
    · by_cases e2 : i = k
      · subst e2; rw [upd_same] at e1; exact hna e1.symm
      · rw [upd_other _ _ e2] at e1; exact h.ap i (by omega) e1.symm
    · have := Option.some.inj e1
      simp at this
      omega
def mk (g : Gr) (i k : Nat) : Nat → Bool := fun j => ((rowG g i).take k).contains (j : Int)
theorem mk_zero (g : Gr) (i : Nat) : mk g i 0 = fun _ => false := by funext j; simp [mk]
theorem mk_yes {g : Gr} {i k t : Nat} (h : (rowG g i)[k]? = some (t : Int)) : upd (mk g i k) t true = mk g i (k + 1) := by
  funext j
  unfold mk
  rw [take_next h]
  by_cases e : j = t
  · subst e; rw [upd_same]; simp
  · rw [upd_other _ _ e]
    simp
    omega
theorem mk_no {g : Gr} {i k n : Nat} {v : Int} (h : (rowG g i)[k]? = some v) (hv : ¬ (0 ≤ v ∧ v < (n : Int))) : arrB n (mk g i k) = arrB n (mk g i (k + 1)) := arrB_congr fun j hj => by
  unfold mk
  rw [take_next h]
  simp
  omega
theorem info_bools : (Try.prog.info? 55).map (fun i => (i.zero, i.size, i.bytes)) = some (some (.slice none 0 0), 1, 24) := by kernel_rfl
theorem one_sl {b n : Nat} : ∀ u ∈ [Value.slice (some ⟨b, 0, none⟩) n n], u.oneCell' = true := by
  intro u hu
  simp at hu
  subst hu
  rfl
theorem MatW.congr {base n : Nat} {A : Option Addr} {k c : Nat} {rb : Nat → Nat} {r r' : Nat → Nat → Bool} {W : World} (h : MatW base n A k c rb r W) (e : ∀ i j, i < k → j < n → r i j = r' i j) : MatW base n A k c rb r' W :=
  ⟨h.own, fun i hi => ⟨by rw [← arrB_congr (f := r i) (f' := r' i) (fun j hj => e i j hi hj)]; exact (h.rows i hi).1, (h.rows i hi).2⟩, h.dist, h.ap⟩
def r2 (g : Gr) (n : Nat) : Nat → Nat → Bool := fun i j => decide (i < n ∧ j < n) && mk g i (rowG g i).length j
theorem r2_iff {g : Gr} {n : Nat} (hn : g.length = n) (i j : Nat) : r2 g n i j = true ↔ Ed g i j := by
  unfold r2 mk
  rw [List.take_length]
  simp
  constructor
  · rintro ⟨⟨_, hj⟩, hm⟩
    exact ⟨by omega, hm⟩
  · intro h
    exact ⟨⟨by have := h.lt; omega, by have := h.1; omega⟩, h.2⟩
theorem r2_snd {g : Gr} {n : Nat} (hn : g.length = n) : SndR g (r2 g n) := fun i j h => ⟨j, (r2_iff hn i j).1 h, .refl j⟩
theorem r2_cpl {g : Gr} {n : Nat} (hn : g.length = n) : CplR g 0 (r2 g n) := fun i j h => (r2_iff hn i j).2 h.zero
def IsComes (g : Gr) (n : Nat) (w : World) (e : Ending) (w' : World) : Prop := ∃ (A : Option Addr) (c : Nat) (rb : Nat → Nat) (r : Nat → Nat → Bool), e = .returned (.slice A n c) ∧ MatW w.heap.size n A n c rb r w' ∧ (∀ i j, r i j = true ↔ Rp g i j) ∧ Below w.heap.size w w'
set_option maxRecDepth 100000 in
set_option maxHeartbeats 8000000 in
theorem comes_any (GA : Option Addr) (n gc : Nat) (g : Gr) (w : World) (hG : GrW w w.heap.size GA n gc g) (hnn : n ≤ 50) (hrow : ∀ i, (rowG g i).length ≤ 60) :
    Calls Try.prog 32 #[.slice GA n gc] w (IsComes g n w) := by
  obtain ⟨i0, hi_, hz0, hz1, hz2⟩ := info_parts info_bools
  obtain ⟨zc, hzc, hmk⟩ := made_bool n (by omega)
  have hgl : g.length = n := hG.1
  have HG : Hid (∀ W, Below w.heap.size w W → GrW W w.heap.size GA n gc g) := Lib.hid fun W hW => hG.keep hW
  have HGL := Lib.hid hgl
  have HROW := Lib.hid hrow
  have HZ := Lib.hid hzc
  have hn0 : (0 : Int) ≤ (n : Int) := by omega
  have hnb : (n : Int) ≤ 50 := by omega
  clear hG hgl hrow hzc
  go_enter Try.func32, Try.ntmps32
  go_wp2_with fail
  go_loopw [4, 5] (fun ov i wr => ∃ (k : Nat) (A1 : Option Addr) (c1 : Nat) (rb : Nat → Nat) (r : Nat → Nat → Bool), ov = .slice A1 k c1 ∧ i = .int .i64 k ∧ k ≤ n ∧ Hid (MatW w.heap.size n A1 k c1 rb r wr ∧ (∀ i, i < k → r i = mk g i (rowG g i).length) ∧ Below w.heap.size w wr)) (fun _ i _ => n - (intOf i).toNat)
  case atStart => exact ⟨0, none, 0, fun _ => 0, fun _ _ => false, rfl, rfl, Nat.zero_le _, Lib.hid ⟨⟨⟨rfl, .inl ⟨rfl, rfl⟩⟩, fun i hi => by omega, fun i j hi => by omega, fun i hi => by omega⟩, fun i hi => by omega, Below.refl _ _⟩⟩
  case round =>
    obtain ⟨i, A1, c1, rb, r, rfl, rfl, hi, HK⟩ := hrel
    have HM := Lib.hid HK.out.1
    have HR := Lib.hid HK.out.2.1
    have HB := Lib.hid HK.out.2.2
    clear HK
    have hi0 : (0 : Int) ≤ (i : Int) := by omega
    have hib : (i : Int) ≤ 50 := by omega
    by_cases hlt : i < n
    · have hin : (i : Int) < (n : Int) := by omega
      have HLT := Lib.hid hlt
      obtain ⟨b, hb⟩ : ∃ b, wr.heap.size = b := ⟨_, rfl⟩
      obtain ⟨w2, hw2⟩ : ∃ X, wr.alloc (.cells zc 4) = X := ⟨_, rfl⟩
      have hbc : Cells w2 b (arrB n (mk g i 0)) := by rw [← hw2, ← hb, mk_zero, ← HZ.out]; exact Cells.new wr zc.toList _
      have hb2 : Below wr.heap.size wr w2 := by rw [← hw2]; exact bl_one _
      have HBC := Lib.hid hbc
      have HM2 := Lib.hid (HM.out.on hb2)
      have HB2 : Hid (Below w.heap.size w w2) := Lib.hid (HB.out.trans (hb2.mono HB.out.size))
      have HBN : Hid (w.heap.size ≤ b ∧ (∀ j, j < i → rb j ≠ b) ∧ (Value.slice A1 i c1).ownBlock ≠ some b) := Lib.hid ⟨by rw [← hb]; exact HB.out.size, fun j hj e => by have := (HM.out.rows j hj).1.lt; omega, fun e => by have := (HM.out.own.lt b e).2; omega⟩
      have hwz : wr.heap.size = b := hb
      clear hbc hb2
      go_wp2_with fail
      clear hw2 hwz hb
      obtain ⟨bg, og, Ar, nr, cr, rfl, hbg, hgc, hrw⟩ := (HG.out w2 HB2.out).row hlt
      have HRL : Hid ((rowG g i).length = nr) := Lib.hid hrw.1
      have HRR : Hid (∀ W, Below w.heap.size w W → W.cell? ⟨bg, og + i, none⟩ = some (.slice Ar nr cr) ∧ SlI W w.heap.size Ar nr cr (rowG g i)) := Lib.hid (fun W hW => by
        obtain ⟨b', o', A', n', c', e1, _, e2, e3⟩ := (HG.out W hW).row HLT.out
        injection e1 with e1
        injection e1 with e4 e5
        subst e4
        subst e5
        have h1 : W.cell? ⟨bg, og + i, none⟩ = w2.cell? ⟨bg, og + i, none⟩ := (hW.cell (p := ⟨bg, og + i, none⟩) hbg).trans (HB2.out.cell (p := ⟨bg, og + i, none⟩) hbg).symm
        rw [h1, hgc] at e2
        injection e2 with e2
        injection e2 with e6 e7 e8
        subst e6
        subst e7
        subst e8
        exact ⟨by rw [h1, hgc], e3⟩)
      have hnr : (nr : Int) ≤ 60 := by have := HROW.out i; have := HRL.out; omega
      clear hrw hgc hbg
      go_loopw [7] (fun j wr => ∃ k : Nat, j = .int .i64 k ∧ k ≤ nr ∧ Hid (MatW w.heap.size n A1 i c1 rb r wr ∧ Cells wr b (arrB n (mk g i k)) ∧ Below w.heap.size w wr)) (fun j _ => nr - (intOf j).toNat)
      case atStart => exact ⟨0, rfl, Nat.zero_le _, Lib.hid ⟨HM2.out, HBC.out, HB2.out⟩⟩
      case round =>
        clear HM2 HBC HB2 HM HB
        obtain ⟨k, rfl, hk, HK⟩ := hrel
        have HM := Lib.hid HK.out.1
        have HC := Lib.hid HK.out.2.1
        have HB := Lib.hid HK.out.2.2
        clear HK
        have hk0 : (0 : Int) ≤ (k : Int) := by omega
        have hkb : (k : Int) ≤ 60 := by omega
        obtain ⟨q0, hsl⟩ := HRR.out _ HB.out
        by_cases hkl : k < nr
        · have hkn : (k : Int) < (nr : Int) := by omega
          obtain ⟨b2, o2, tv, rfl, hb2, htv, hct⟩ := SlR.cell1 (f := Value.int .i64) hsl hkl
          have HT := Lib.hid htv
          clear htv hsl hb2
          by_cases htr : 0 ≤ tv ∧ tv < (n : Int)
          · obtain ⟨t, rfl⟩ : ∃ t : Nat, tv = (t : Int) := ⟨tv.toNat, by omega⟩
            have t0 : decide ((t : Int) ≥ 0) = true := by simp
            have ht0 : (0 : Int) ≤ (t : Int) := by omega
            have htn1 : (t : Int) < (n : Int) := by omega
            have htn : t < n := by omega
            have t1 : decide (t < n) = true := by simpa using htn
            have c0 := HC.out.at_ t _ (arrB_at _ htn)
            have c0f := HC.out.fz t (by rw [arrB_len]; exact htn)
            have HTN := Lib.hid htn
            clear htr htn
            go_wp2_with fail
            refine ⟨⟨k + 1, by go_num, by omega, Lib.hid ⟨HM.out.kp (kp_set _ b t _) (fun j hj => ?_), ?_, HB.out.setCell (p := ⟨b, t, none⟩) HBN.out.1 _⟩⟩, by simp [intOf]; omega⟩
            · have hj' : j = b := hj
              subst hj'
              exact ⟨HBN.out.2.1, HBN.out.2.2⟩
            · have h1 := HC.out.put t (by rw [arrB_len]; exact HTN.out) (.bool true)
              rw [arrB_set, mk_yes HT.out] at h1
              exact h1
          · have HN : Hid (arrB n (mk g i k) = arrB n (mk g i (k + 1))) := Lib.hid (mk_no HT.out htr)
            by_cases hneg : 0 ≤ tv
            · have t0 : decide (tv ≥ 0) = true := by simpa using hneg
              have t1 : ¬ tv < (n : Int) := by omega
              have t2 : decide (tv < (n : Int)) = false := by simpa using t1
              clear htr
              go_wp2_with fail
              refine ⟨⟨k + 1, by go_num, by omega, Lib.hid ⟨HM.out, by rw [← HN.out]; exact HC.out, HB.out⟩⟩, by simp [intOf]; omega⟩
            · have t0 : decide (tv ≥ 0) = false := by simpa using hneg
              clear htr
              go_wp2_with fail
              refine ⟨⟨k + 1, by go_num, by omega, Lib.hid ⟨HM.out, by rw [← HN.out]; exact HC.out, HB.out⟩⟩, by simp [intOf]; omega⟩
        · obtain rfl : k = nr := by omega
          have HZS : Hid (w.heap.size ≤ wr.heap.size) := Lib.hid HB.out.size
          have hsrc := Lib.hid (row_src wr #[.slice (some ⟨b, 0, none⟩) n n] 55 1 rfl)
          clear hsl
          go_wp2_with (first
            | (at_builtin; go_must (refine wpList_append_src _ rfl _ _ 53 rfl w.heap.size 55 i0 (.slice none 0 0) 1 24 Try.underlying53 hi_ hz0 hz1 hz2 rfl (by decide) _ _ _ rfl (HM.out.own.alloc _) (some ⟨wr.heap.size, 0, none⟩) 1 1 [.slice (some ⟨b, 0, none⟩) n n] rfl hsrc.out one_sl (by unfold maxLen; omega) (by omega) (by have := HZS.out; simp; omega) ?_)
               intro v' w3 hown' hgrow3 hat3
               obtain ⟨A', c', rfl, XM, XK⟩ := HM.out.push HC.out HBN.out.1 HBN.out.2.1 HBN.out.2.2 hown' hgrow3 hat3
               have HN : Hid (MatW w.heap.size n A' (i + 1) c' (upd rb i b) (fun a => if a = i then mk g i k else r a) w3 ∧ (∀ a, a < i + 1 → (fun a => if a = i then mk g i k else r a) a = mk g a (rowG g a).length) ∧ Below w.heap.size w w3) := Lib.hid ⟨XM, fun a ha => by
                 by_cases e : a = i
                 · subst e; rw [HRL.out]; simp
                 · simp only [if_neg e]; exact HR.out a (by omega), HB.out.trans (XK.below HZS.out (fun j hj => (HM.out.own.lt j hj).1))⟩
               clear XM XK hown' hgrow3 hat3)
            | fail)
          go_roundw
          case rel => exact ⟨i + 1, A', c', _, _, rfl, by go_num, by omega, HN⟩
          case measure => simp [intOf]; omega
    · obtain rfl : i = n := by omega
      have HM0 : Hid (MatW w.heap.size i A1 i c1 rb (r2 g i) wr) := Lib.hid (HM.out.congr (fun a b ha hb => by rw [HR.out a ha]; simp [r2, ha, hb]))
      have HS0 : Hid (SndR g (r2 g i)) := Lib.hid (r2_snd HGL.out)
      have HC0 : Hid (CplR g 0 (r2 g i)) := Lib.hid (r2_cpl HGL.out)
      clear HM HR
      go_wp2_with fail
      go_loopw [8] (fun kv wr => ∃ (k : Nat) (r : Nat → Nat → Bool), kv = .int .i64 k ∧ k ≤ i ∧ Hid (MatW w.heap.size i A1 i c1 rb r wr ∧ SndR g r ∧ CplR g k r ∧ Below w.heap.size w wr)) (fun kv _ => i - (intOf kv).toNat)
      case atStart => exact ⟨0, _, rfl, Nat.zero_le _, Lib.hid ⟨HM0.out, HS0.out, HC0.out, HB.out⟩⟩
      case round =>
        clear HM0 HS0 HC0 HB
        obtain ⟨k, r0, rfl, hk, HK⟩ := hrel
        have hk0 : (0 : Int) ≤ (k : Int) := by omega
        have hkb : (k : Int) ≤ 50 := by omega
        by_cases hkl : k < i
        · have hki : (k : Int) < (i : Int) := by omega
          have HCP := Lib.hid HK.out.2.2.1
          go_wp2_with fail
          go_loopw [9] (fun av wr => ∃ (a : Nat) (r : Nat → Nat → Bool), av = .int .i64 a ∧ a ≤ i ∧ Hid (MatW w.heap.size i A1 i c1 rb r wr ∧ Mid g k r0 r a 0 ∧ Below w.heap.size w wr)) (fun av _ => i - (intOf av).toNat)
          case atStart => exact ⟨0, r0, rfl, Nat.zero_le _, Lib.hid ⟨HK.out.1, Mid.start HK.out.2.1, HK.out.2.2.2⟩⟩
          case round =>
            clear HK
            obtain ⟨a, r1, rfl, ha, HK⟩ := hrel
            have ha0 : (0 : Int) ≤ (a : Int) := by omega
            have hab : (a : Int) ≤ 50 := by omega
            by_cases hal : a < i
            · have hai : (a : Int) < (i : Int) := by omega
              go_wp2_with fail
              go_loopw [10] (fun jv wr => ∃ (j : Nat) (r : Nat → Nat → Bool), jv = .int .i64 j ∧ j ≤ i ∧ Hid (MatW w.heap.size i A1 i c1 rb r wr ∧ Mid g k r0 r a j ∧ Below w.heap.size w wr)) (fun jv _ => i - (intOf jv).toNat)
              case atStart => exact ⟨0, r1, rfl, Nat.zero_le _, HK⟩
              case round =>
                clear HK
                obtain ⟨j, r, rfl, hj, HK⟩ := hrel
                have HM := Lib.hid HK.out.1
                have HD := Lib.hid HK.out.2.1
                have HB := Lib.hid HK.out.2.2
                clear HK
                have hj0 : (0 : Int) ≤ (j : Int) := by omega
                have hjb : (j : Int) ≤ 50 := by omega
                by_cases hjl : j < i
                · have hji : (j : Int) < (i : Int) := by omega
                  obtain ⟨ra, rfl, x0, x1, _⟩ := HM.out.at_ hal hkl
                  obtain ⟨ra', e1, y0, y1, _⟩ := HM.out.at_ hkl hjl
                  obtain ⟨ra2, e2, z0, z1, z1f⟩ := HM.out.at_ hal hjl
                  injection e1 with e1
                  injection e1 with e1
                  subst e1
                  clear e2 z0
                  have HLT : Hid (a < i ∧ j < i) := Lib.hid ⟨hal, hjl⟩
                  have HBL : Hid (w.heap.size ≤ rb a) := Lib.hid (HM.out.rows a hal).2
                  cases h1 : r a k with
                  | false =>
                    rw [h1] at x1
                    have HN := Lib.hid (HD.out.skip (fun h => by rw [h1] at h; cases h.1))
                    clear h1
                    go_wp2_with fail
                    refine ⟨⟨j + 1, r, by go_num, by omega, Lib.hid ⟨HM.out, HN.out, HB.out⟩⟩, by simp [intOf]; omega⟩
                  | true =>
                    rw [h1] at x1
                    cases h2 : r k j with
                    | false =>
                      rw [h2] at y1
                      have HN := Lib.hid (HD.out.skip (fun h => by rw [h2] at h; cases h.2))
                      clear h1 h2
                      go_wp2_with fail
                      refine ⟨⟨j + 1, r, by go_num, by omega, Lib.hid ⟨HM.out, HN.out, HB.out⟩⟩, by simp [intOf]; omega⟩
                    | true =>
                      rw [h2] at y1
                      have HN := Lib.hid (HD.out.put h1 h2)
                      clear h1 h2
                      go_wp2_with fail
                      refine ⟨⟨j + 1, _, by go_num, by omega, Lib.hid ⟨HM.out.put HLT.out.1 HLT.out.2, HN.out, HB.out.setCell (p := ⟨rb a, j, none⟩) HBL.out _⟩⟩, by simp [intOf]; omega⟩
                · obtain rfl : j = i := by omega
                  have HN : Hid (Mid g k r0 r (a + 1) 0) := Lib.hid (Mid.row (by have := HD.out; rw [HGL.out]; exact this))
                  go_wp2_with fail
                  go_roundw
                  case rel => exact ⟨a + 1, r, by go_num, by omega, Lib.hid ⟨HM.out, HN.out, HB.out⟩⟩
                  case measure => simp [intOf]; omega
            · obtain rfl : a = i := by omega
              have HN : Hid (CplR g (k + 1) r1) := Lib.hid (Mid.done (by have := HK.out.2.1; rw [HGL.out]; exact this) HCP.out)
              go_wp2_with fail
              go_roundw
              case rel => exact ⟨k + 1, r1, by go_num, by omega, Lib.hid ⟨HK.out.1, HK.out.2.1.snd, HN.out, HK.out.2.2⟩⟩
              case measure => simp [intOf]; omega
        · obtain rfl : k = i := by omega
          go_wp2_with fail
          go_ret
          exact ⟨A1, c1, rb, r0, rfl, HK.out.1, fun a b => full_iff HK.out.2.1 (by rw [HGL.out]; exact HK.out.2.2.1) a b, HK.out.2.2.2⟩
end Go.Proofs.Ytnfoahcdmaphnaa
