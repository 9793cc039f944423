/-
  Graphs of programs: one, and all to which it comes, by rounds.
-/
import Derived.Test.YtjblfdnhmmlbfaaGe4
import Derived.Test.YtjblfdnhmmlbfaaGe5
namespace Go.Proofs.Ytjblfdnhmmlbfaa
open Go.RowKit Go.Maps
set_option linter.unusedSimpArgs false
set_option linter.unusedVariables false
/-- The truths of a function as cells. -/
def arrB (n : Nat) (f : Nat → Bool) : List Value := (List.range n).map fun i => Value.bool (f i)
theorem arrB_len (n : Nat) (f : Nat → Bool) : (arrB n f).length = n := by simp [arrB]
theorem arrB_at {n i : Nat} (f : Nat → Bool) (hi : i < n) : (arrB n f)[i]? = some (.bool (f i)) := by
  simp [arrB, hi]
theorem arrB_set {n i : Nat} (f : Nat → Bool) (v : Bool) : (arrB n f).set i (.bool v) = arrB n (upd f i v) := by
  apply List.ext_getElem?
  intro j
  by_cases hj : j < n
  · rw [arrB_at _ hj]
    by_cases e : j = i
    · subst e
      rw [List.getElem?_set_self (by rw [arrB_len]; exact hj), upd_same]
    · rw [List.getElem?_set_ne (fun h => e h.symm), arrB_at _ hj, upd_other _ _ e]
  · rw [List.getElem?_eq_none (by simp [arrB_len]; omega), List.getElem?_eq_none (by simp [arrB_len]; omega)]
theorem info_bool : (Try.prog.info? 4).map (fun i => (i.zero, i.size, i.bytes)) = some (some (.bool false), 1, 1) := by kernel_rfl
theorem made_bool (n : Nat) (hn : n ≤ 1000) : ∃ zc : Array Value, zc.toList = arrB n (fun _ => false) ∧ ∀ W, (Instr.makeSlice 51 (.int .i64 (n : Int)) (.int .i64 (n : Int))).run Try.prog W = .ok (.slice (some ⟨W.heap.size, 0, none⟩) n n) (W.alloc (.cells zc 4)) := by
  obtain ⟨i0, hi, hz0, hz1, hz2⟩ := info_parts info_bool
  refine ⟨madeCells (Value.bool false).cells (n * i0.size), ?_, fun W => ?_⟩
  · rw [hz1, Nat.mul_one]
    rw [show (Value.bool false).cells = #[Value.bool false] from rfl, toList_madeCells_one]
    apply List.ext_getElem?
    intro j
    by_cases hj : j < n
    · rw [arrB_at _ hj]; simp [hj]
    · rw [List.getElem?_eq_none (by simp; omega), List.getElem?_eq_none (by rw [arrB_len]; omega)]
  · have := run_make (P := Try.prog) W 51 4 i0 _ Try.underlying51 hi hz0 .i64 .i64 (n : Int) (n : Int) (by omega) (by omega) (by rw [hz2]; omega) (by omega)
    simpa using this
def filU (s : Nat → Bool) (k : Nat) : List Int := ((List.range k).filter s).map fun j : Nat => (j : Int)
theorem filU_yes {s : Nat → Bool} {k : Nat} (h : s k = true) : filU s k ++ [(k : Int)] = filU s (k + 1) := by
  unfold filU
  rw [List.range_succ, List.filter_append, List.map_append]
  simp [h]
theorem filU_no {s : Nat → Bool} {k : Nat} (h : s k = false) : filU s k = filU s (k + 1) := by
  unfold filU
  rw [List.range_succ, List.filter_append, List.map_append]
  simp [h]
theorem filU_reach {g : Gr} {i : Nat} {s : Nat → Bool} (hi : i < g.length) (h : ∀ j, s j = true ↔ j < g.length ∧ Rs g i j) : ReachL g (i : Int) (filU s g.length) := by
  refine ⟨?_, fun x => ?_⟩
  · unfold filU
    rw [List.pairwise_map]
    exact (List.pairwise_lt_range.filter _).imp fun h => by omega
  · unfold filU
    rw [List.mem_map]
    simp only [List.mem_filter, List.mem_range, Int.toNat_natCast]
    constructor
    · rintro ⟨j, ⟨hj, hs⟩, rfl⟩
      exact ⟨by omega, by omega, by omega, by rw [Int.toNat_natCast]; exact ((h j).1 hs).2⟩
    · rintro ⟨h0, _, _, hr⟩
      exact ⟨x.toNat, ⟨hr.lt hi, (h _).2 ⟨hr.lt hi, hr⟩⟩, by omega⟩
theorem reach_none {g : Gr} {f : Int} (h : ¬ (0 ≤ f ∧ f < (g.length : Int))) : ReachL g f [] := ⟨List.Pairwise.nil, fun x => ⟨fun h => by simp at h, fun ⟨_, a, b, _⟩ => absurd ⟨a, b⟩ h⟩⟩
def IsReach (g : Gr) (f : Int) (w : World) (e : Ending) (w' : World) : Prop := ∃ A m c l, e = .returned (.slice A m c) ∧ m ≤ 1000 ∧ ReachL g f l ∧ w'.ownsRow w.heap.size 3 1 (.slice A m c) m (rowI l) ∧ Below w.heap.size w w'
set_option maxRecDepth 100000 in
set_option maxHeartbeats 8000000 in
theorem come_any (GA : Option Addr) (n gc : Nat) (g : Gr) (f : Int) (w : World) (hG : GrW w w.heap.size GA n gc g) (hnn : n ≤ 50) (hrow : ∀ i, (rowG g i).length ≤ 60) (hin : ∀ i x, x ∈ rowG g i → 0 ≤ x ∧ x < (n : Int)) :
    Calls Try.prog 9 #[.slice GA n gc, .int .i64 f] w (IsReach g f w) := by
  obtain ⟨i0, hi_, hz0, hz1, hz2⟩ := info_parts info_int
  obtain ⟨zc, hzc, hmk⟩ := made_bool n (by omega)
  have hgl : g.length = n := hG.1
  have HG : Hid (∀ W, Below w.heap.size w W → GrW W w.heap.size GA n gc g) := Lib.hid fun W hW => hG.keep hW
  have HGL := Lib.hid hgl
  have HROW := Lib.hid hrow
  have HIN := Lib.hid hin
  have hn0 : (0 : Int) ≤ (n : Int) := by omega
  have hnb : (n : Int) ≤ 50 := by omega
  obtain ⟨b, hb⟩ : ∃ b, w.heap.size = b := ⟨_, rfl⟩
  obtain ⟨w1, hw1⟩ : ∃ X, w.alloc (.cells zc 4) = X := ⟨_, rfl⟩
  have hbc : Cells w1 b (arrB n (fun _ => false)) := by rw [← hw1, ← hb, ← hzc]; exact Cells.new w zc.toList _
  have hb1 : Below w.heap.size w w1 := by rw [← hw1]; exact bl_one _
  have HBC := Lib.hid hbc
  have HB1 := Lib.hid hb1
  have hbE := Lib.hid hb
  clear hG hgl hrow hin hzc hbc hb1
  by_cases hf : 0 ≤ f ∧ f < (n : Int)
  · obtain ⟨hf0, hf1⟩ := hf
    obtain ⟨fi, rfl⟩ : ∃ i : Nat, f = (i : Int) := ⟨f.toNat, by omega⟩
    have hfn : fi < n := by omega
    have t0 : decide ((fi : Int) < 0) = false := by simp
    have t1 : decide (n ≤ fi) = false := by simp; omega
    have c0 := HBC.out.at_ fi _ (arrB_at _ hfn)
    have c0f := HBC.out.fz fi (by rw [arrB_len]; exact hfn)
    have HC1 : Hid (Cells (w1.setCell ⟨b, fi, none⟩ (.bool true)) b (arrB n (upd (fun _ => false) fi true)) ∧ Below w.heap.size w (w1.setCell ⟨b, fi, none⟩ (.bool true))) := Lib.hid ⟨by
      have h1 := HBC.out.put fi (by rw [arrB_len]; exact hfn) (.bool true)
      rw [arrB_set] at h1
      exact h1, HB1.out.setCell (p := ⟨b, fi, none⟩) (by rw [hbE.out]; exact Nat.le_refl _) _⟩
    have HO : Hid (Ou g fi 0 (upd (fun _ => false) fi true)) := Lib.hid (Ou.start (by rw [HGL.out]; exact hfn))
    have HFN := Lib.hid hfn
    clear hfn
    go_enter Try.func9, Try.ntmps9
    go_wp2_with fail
    clear hw1 hb c0 c0f
    go_loopw [6] (fun rv wr => ∃ (r : Nat) (s : Nat → Bool), rv = .int .i64 r ∧ r ≤ n ∧ Hid (Cells wr b (arrB n s) ∧ Ou g fi r s ∧ Below w.heap.size w wr)) (fun rv _ => n - (intOf rv).toNat)
    case atStart => exact ⟨0, _, rfl, Nat.zero_le _, Lib.hid ⟨HC1.out.1, HO.out, HC1.out.2⟩⟩
    case round =>
      clear HC1 HO
      obtain ⟨r, s0, rfl, hr, HK⟩ := hrel
      have hr0 : (0 : Int) ≤ (r : Int) := by omega
      have hrb : (r : Int) ≤ 50 := by omega
      by_cases hrl : r < n
      · have hrn : (r : Int) < (n : Int) := by omega
        go_wp2_with fail
        go_loopw [7] (fun iv wr => ∃ (i : Nat) (s : Nat → Bool), iv = .int .i64 i ∧ i ≤ n ∧ Hid (Cells wr b (arrB n s) ∧ RdC g fi r s0 s i 0 ∧ Below w.heap.size w wr)) (fun iv _ => n - (intOf iv).toNat)
        case atStart => exact ⟨0, s0, rfl, Nat.zero_le _, Lib.hid ⟨HK.out.1, RdC.start HK.out.2.1, HK.out.2.2⟩⟩
        case round =>
          clear HK
          obtain ⟨i, s1, rfl, hi, HK⟩ := hrel
          have hi0 : (0 : Int) ≤ (i : Int) := by omega
          have hib : (i : Int) ≤ 50 := by omega
          by_cases hil : i < n
          · have hin : (i : Int) < (n : Int) := by omega
            have HIL := Lib.hid hil
            go_wp2_with fail
            obtain ⟨bg, og, Ar, nr, cr, rfl, hbg, hgc, hrw⟩ := (HG.out w (Below.refl _ _)).row hil
            have HRL : Hid ((rowG g i).length = nr) := Lib.hid hrw.1
            have HRR : Hid (∀ W, Below w.heap.size w W → W.cell? ⟨bg, og + i, none⟩ = some (.slice Ar nr cr) ∧ SlI W w.heap.size Ar nr cr (rowG g i)) := Lib.hid (fun W hW => ⟨(hW.cell (p := ⟨bg, og + i, none⟩) hbg).trans hgc, SlR.keep (stable_rc _) hrw fun p hp => hW.cell hp⟩)
            have hnr : (nr : Int) ≤ 60 := by have := HROW.out i; have := HRL.out; omega
            clear hrw hgc hbg
            go_loopw [8] (fun kv wr => ∃ (k : Nat) (s : Nat → Bool), kv = .int .i64 k ∧ k ≤ nr ∧ Hid (Cells wr b (arrB n s) ∧ RdC g fi r s0 s i k ∧ Below w.heap.size w wr)) (fun kv _ => nr - (intOf kv).toNat)
            case atStart => exact ⟨0, s1, rfl, Nat.zero_le _, HK⟩
            case round =>
              clear HK
              obtain ⟨k, s, rfl, hk, HK⟩ := hrel
              have HC := Lib.hid HK.out.1
              have HD := Lib.hid HK.out.2.1
              have HB := Lib.hid HK.out.2.2
              clear HK
              have hk0 : (0 : Int) ≤ (k : Int) := by omega
              have hkb : (k : Int) ≤ 60 := by omega
              obtain ⟨q0, hsl⟩ := HRR.out _ HB.out
              have x0 := HC.out.at_ i _ (arrB_at _ HIL.out)
              by_cases hkl : k < nr
              · have hkn : (k : Int) < (nr : Int) := by omega
                have t2 : decide (k < nr) = true := by simpa using hkl
                obtain ⟨b2, o2, tv, rfl, hb2, htv, hct⟩ := SlR.cell1 (f := Value.int .i64) hsl hkl
                have HT := Lib.hid htv
                have htr := HIN.out i tv (List.mem_of_getElem? htv)
                clear htv hsl hb2
                cases hs : s i with
                | true =>
                  rw [hs] at x0
                  obtain ⟨t, rfl⟩ : ∃ t : Nat, tv = (t : Int) := ⟨tv.toNat, by omega⟩
                  have ht0 : (0 : Int) ≤ (t : Int) := by omega
                  have htn1 : (t : Int) < (n : Int) := htr.2
                  have htn : t < n := by omega
                  have c0 := HC.out.at_ t _ (arrB_at _ htn)
                  have c0f := HC.out.fz t (by rw [arrB_len]; exact htn)
                  have HN : Hid (Cells (wr.setCell ⟨b, t, none⟩ (.bool true)) b (arrB n (upd s t true)) ∧ RdC g fi r s0 (upd s t true) i (k + 1) ∧ Below w.heap.size w (wr.setCell ⟨b, t, none⟩ (.bool true))) := Lib.hid ⟨by
                    have h1 := HC.out.put t (by rw [arrB_len]; exact htn) (.bool true)
                    rw [arrB_set] at h1
                    exact h1, HD.out.put hs HT.out (by rw [HGL.out]; exact htn), HB.out.setCell (p := ⟨b, t, none⟩) (by rw [hbE.out]; exact Nat.le_refl _) _⟩
                  clear htr htn hs
                  go_wp2_with fail
                  go_roundw
                  case rel => exact ⟨k + 1, _, by go_num, by omega, HN⟩
                  case measure => simp [intOf]; omega
                | false =>
                  rw [hs] at x0
                  have HN := Lib.hid (HD.out.next (.inl hs))
                  clear hs htr
                  go_wp2_with fail
                  go_roundw
                  case rel => exact ⟨i + 1, s, by go_num, by omega, Lib.hid ⟨HC.out, HN.out, HB.out⟩⟩
                  case measure => simp [intOf]; omega
              · obtain rfl : k = nr := by omega
                have t2 : decide (k < k) = false := by simp
                have HN := Lib.hid (HD.out.next (.inr HRL.out.symm))
                clear hsl
                go_wp2_with fail
                go_roundw
                case rel => exact ⟨i + 1, s, by go_num, by omega, Lib.hid ⟨HC.out, HN.out, HB.out⟩⟩
                case measure => simp [intOf]; omega
          · obtain rfl : i = n := by omega
            have HN : Hid (Ou g fi (r + 1) s1) := Lib.hid (RdC.end_ (k := 0) (by rw [HGL.out]; exact HK.out.2.1))
            go_wp2_with fail
            go_roundw
            case rel => exact ⟨r + 1, s1, by go_num, by omega, Lib.hid ⟨HK.out.1, HN.out, HK.out.2.2⟩⟩
            case measure => simp [intOf]; omega
      · obtain rfl : r = n := by omega
        have HF : Hid (ReachL g (fi : Int) (filU s0 r)) := Lib.hid (by
          have h1 := HK.out.2.1
          rw [← HGL.out] at h1 ⊢
          exact filU_reach (by rw [HGL.out]; exact HFN.out) h1.all)
        have HC := Lib.hid HK.out.1
        have HB := Lib.hid HK.out.2.2
        clear HK
        obtain ⟨wx, rfl⟩ : ∃ x, x = wr := ⟨_, rfl⟩
        go_wp2_with fail
        go_loopw [9, 10] (fun ov iv wr => ∃ (k : Nat) (A2 : Option Addr) (m c2 : Nat), ov = .slice A2 m c2 ∧ iv = .int .i64 k ∧ k ≤ r ∧ m ≤ k ∧ Hid (wr.ownsRow wx.heap.size 3 1 (.slice A2 m c2) m (rowI (filU s0 k)) ∧ Below wx.heap.size wx wr)) (fun _ iv _ => r - (intOf iv).toNat)
        case atStart => exact ⟨0, none, 0, 0, rfl, rfl, Nat.zero_le _, Nat.le_refl _, Lib.hid ⟨⟨rfl, .inl ⟨rfl, rfl⟩⟩, Below.refl _ _⟩⟩
        case round =>
          obtain ⟨k, A2, m, c2, rfl, rfl, hk, hm, HK⟩ := hrel
          have hk0 : (0 : Int) ≤ (k : Int) := by omega
          have hkb : (k : Int) ≤ 50 := by omega
          have HBZ : Hid (wx.heap.size ≤ wr.heap.size) := Lib.hid HK.out.2.size
          by_cases hkl : k < r
          · have hkn : (k : Int) < (r : Int) := by omega
            have x0 := (HC.out.on HK.out.2).at_ k _ (arrB_at _ hkl)
            cases hs : s0 k with
            | false =>
              rw [hs] at x0
              have HE := Lib.hid (filU_no hs)
              clear hs
              go_wp2_with fail
              go_roundw
              case rel => exact ⟨k + 1, A2, m, c2, rfl, by go_num, by omega, by omega, Lib.hid ⟨by rw [← HE.out]; exact HK.out.1, HK.out.2⟩⟩
              case measure => simp [intOf]; omega
            | true =>
              rw [hs] at x0
              have HE := Lib.hid (filU_yes hs)
              have HO := Lib.hid HK.out.1
              have HB2 := Lib.hid HK.out.2
              have hsrc := Lib.hid (src_int wr (k : Int))
              clear hs HK
              go_wp2_with (first
                | (at_builtin; go_must (refine wpList_append_src _ rfl _ _ 30 rfl wx.heap.size 3 i0 (.int .i64 0) 1 8 Try.underlying30 hi_ hz0 hz1 hz2 rfl (by decide) _ _ _ rfl (HO.out.alloc _) (some ⟨wr.heap.size, 0, none⟩) 1 1 [.int .i64 (k : Int)] rfl hsrc.out (one_int (k : Int)) (by unfold maxLen; omega) (by omega) (by have := HBZ.out; simp; omega) ?_)
                   intro v' w4 hown' hgrow3 hat3
                   obtain ⟨A', c', rfl, X1, X2, _⟩ := app_int HB2.out HBZ.out HO.out hown' hgrow3
                   rw [HE.out] at X1
                   have XR := Lib.hid X1
                   have XB := Lib.hid X2
                   clear X1 X2 hown' hgrow3 hat3)
                | fail)
              go_roundw
              case rel => exact ⟨k + 1, A', m + 1, c', rfl, by go_num, by omega, by omega, Lib.hid ⟨XR.out, XB.out⟩⟩
              case measure => simp [intOf]; omega
          · obtain rfl : k = r := by omega
            go_wp2_with fail
            go_ret
            exact ⟨A2, m, c2, _, rfl, by omega, HF.out, own_less HK.out.1 HB.out.size, HB.out.trans (HK.out.2.mono HB.out.size)⟩
  · have HN : Hid (ReachL g f []) := Lib.hid (reach_none (by rw [HGL.out]; exact hf))
    by_cases hf0 : f < 0
    · have t0 : decide (f < 0) = true := by simpa using hf0
      clear hf
      go_enter Try.func9, Try.ntmps9
      go_wp2_with fail
      go_ret
      exact ⟨none, 0, 0, [], rfl, by omega, HN.out, ⟨rfl, .inl ⟨rfl, rfl⟩⟩, HB1.out⟩
    · have t0 : decide (f < 0) = false := by simpa using hf0
      have t1 : decide (f ≥ (n : Int)) = true := by simp; omega
      clear hf
      go_enter Try.func9, Try.ntmps9
      go_wp2_with fail
      go_ret
      exact ⟨none, 0, 0, [], rfl, by omega, HN.out, ⟨rfl, .inl ⟨rfl, rfl⟩⟩, HB1.out⟩
end Go.Proofs.Ytjblfdnhmmlbfaa
