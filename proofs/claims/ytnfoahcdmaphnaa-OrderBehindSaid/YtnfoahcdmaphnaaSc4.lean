/-
  Circles: of each thing the least that belongs to it.
-/
import Derived.Test.YtnfoahcdmaphnaaSc3
import Derived.Laws.MakeOwn
namespace Go.Proofs.Ytnfoahcdmaphnaa
open Go.RowKit
set_option linter.unusedSimpArgs false
set_option linter.unusedVariables false
theorem made_int (n : Nat) (hn : n ≤ 1000) : ∃ zc : Array Value, zc.toList = arrC n (fun _ => 0) ∧ ∀ W, (Instr.makeSlice 31 (.int .i64 (n : Int)) (.int .i64 (n : Int))).run Try.prog W = .ok (.slice (some ⟨W.heap.size, 0, none⟩) n n) (W.alloc (.cells zc 3)) := by
  obtain ⟨i0, hi, hz0, hz1, hz2⟩ := info_parts info_int
  refine ⟨madeCells (Value.int .i64 0).cells (n * i0.size), ?_, fun W => ?_⟩
  · rw [hz1, Nat.mul_one]
    rw [show (Value.int .i64 0).cells = #[Value.int .i64 0] from rfl, toList_madeCells_one]
    apply List.ext_getElem?
    intro j
    by_cases hj : j < n
    · rw [arrC_at _ hj]; simp [hj]
    · rw [List.getElem?_eq_none (by simp; omega), List.getElem?_eq_none (by rw [arrC_len]; omega)]
  · have := run_make (P := Try.prog) W 31 3 i0 _ Try.underlying31 hi hz0 .i64 .i64 (n : Int) (n : Int) (by omega) (by omega) (by rw [hz2]; omega) (by omega)
    simpa using this
def W3 (w : World) (zc : Array Value) : World := ((w.alloc (.cells zc 3)).alloc (.cells zc 3)).alloc (.cells zc 3)
theorem w3_size (w : World) (zc : Array Value) : (W3 w zc).heap.size = w.heap.size + 1 + 1 + 1 := by simp [W3]
theorem w3_below (w : World) (zc : Array Value) : Below w.heap.size w (W3 w zc) := (((Below.refl _ _).alloc (Nat.le_refl _) _).alloc (by simp) _).alloc (by simp; omega) _
theorem w3_at (w : World) (zc : Array Value) : Cells (W3 w zc) w.heap.size zc.toList ∧ Cells (W3 w zc) (w.heap.size + 1) zc.toList ∧ Cells (W3 w zc) (w.heap.size + 1 + 1) zc.toList := by
  have a0 : Cells (w.alloc (.cells zc 3)) w.heap.size zc.toList := Cells.new w zc.toList _
  have a1 : Cells ((w.alloc (.cells zc 3)).alloc (.cells zc 3)) (w.heap.size + 1) zc.toList := cells_new_at (by simp) zc.toList _
  have a2 : Cells (W3 w zc) (w.heap.size + 1 + 1) zc.toList := cells_new_at (by simp) zc.toList _
  exact ⟨(a0.on (bl_one _)).on (bl_one _), a1.on (bl_one _), a2⟩
theorem sc_new (w : World) (zc : Array Value) (GA : Option Addr) (n gc s l h : Nat) (hz : zc.toList = arrC n (fun _ => 0)) (hs : Cells (W3 w zc) s zc.toList) (hl : Cells (W3 w zc) l zc.toList) (hh : Cells (W3 w zc) h zc.toList)
    (m : w.heap.size ≤ s ∧ w.heap.size ≤ l ∧ w.heap.size ≤ h ∧ s ≠ l ∧ s ≠ h ∧ l ≠ h) (W : World) (hW : W = ((W3 w zc).alloc (.cells #[.slice GA n gc, .slice none 0 0, .slice (some ⟨s, 0, none⟩) n n, .slice (some ⟨l, 0, none⟩) n n, .slice none 0 0, .slice (some ⟨h, 0, none⟩) n n, .int .i64 0] 73)).drew) :
    SC w.heap.size (w.heap.size + 1 + 1 + 1 + 1) (w.heap.size + 1 + 1 + 1) s l h GA n gc none 0 0 none 0 0 [] (fun _ => 0) (fun _ => 0) [] (fun _ => 0) 0 W ∧ Below w.heap.size w W ∧ w.heap.size + 1 + 1 + 1 + 1 ≤ W.heap.size := by
  subst hW
  have h1 := hs.lt
  have h2 := hl.lt
  have h3 := hh.lt
  rw [w3_size] at h1 h2 h3
  rw [hz] at hs hl hh
  have q : Cells ((W3 w zc).alloc (.cells #[.slice GA n gc, .slice none 0 0, .slice (some ⟨s, 0, none⟩) n n, .slice (some ⟨l, 0, none⟩) n n, .slice none 0 0, .slice (some ⟨h, 0, none⟩) n n, .int .i64 0] 73)) (w.heap.size + 1 + 1 + 1) [.slice GA n gc, .slice none 0 0, .slice (some ⟨s, 0, none⟩) n n, .slice (some ⟨l, 0, none⟩) n n, .slice none 0 0, .slice (some ⟨h, 0, none⟩) n n, .int .i64 0] := cells_new_at (by rw [w3_size]) [.slice GA n gc, .slice none 0 0, .slice (some ⟨s, 0, none⟩) n n, .slice (some ⟨l, 0, none⟩) n n, .slice none 0 0, .slice (some ⟨h, 0, none⟩) n n, .int .i64 0] _
  have k : ∀ X : World, Kp (fun _ => False) X X.drew := fun X => (Kp.refl _ _).drew
  have kn := bl_one (w := W3 w zc) (.cells #[.slice GA n gc, .slice none 0 0, .slice (some ⟨s, 0, none⟩) n n, .slice (some ⟨l, 0, none⟩) n n, .slice none 0 0, .slice (some ⟨h, 0, none⟩) n n, .int .i64 0] 73)
  refine ⟨⟨q.kp (k _) id, (hs.on kn).kp (k _) id, (hl.on kn).kp (k _) id, (hh.on kn).kp (k _) id, ⟨rfl, .inl ⟨rfl, rfl⟩⟩, ⟨rfl, .inl ⟨rfl, rfl⟩⟩, fun k hk => (by simp [Value.ownBlock] at hk), by omega, by omega, by omega⟩, ((w3_below w zc).trans (kn.mono (w3_below w zc).size)).drew, ?_⟩
  have := w3_size w zc
  have e : ((W3 w zc).alloc (.cells #[.slice GA n gc, .slice none 0 0, .slice (some ⟨s, 0, none⟩) n n, .slice (some ⟨l, 0, none⟩) n n, .slice none 0 0, .slice (some ⟨h, 0, none⟩) n n, .int .i64 0] 73)).drew.heap.size = (W3 w zc).heap.size + 1 := by simp [World.drew]
  omega
theorem Inv.init {g : Gr} {home : Nat → Int} (hh : ∀ v, v < g.length → home v < 0) : Inv g [] (fun _ => 0) (fun _ => 0) [] home 0 where
  met := ⟨[], List.nodup_nil, fun v => by simp, rfl⟩
  sle := fun v _ => Nat.le_refl _
  hs := List.Pairwise.nil
  hm := by simp
  ws := List.Pairwise.nil
  wh := by simp
  hh := fun v hv => by simp [hh v hv]
  ok := by simp
  cl := by simp
  fin := by simp
  part := by simp
  rch := by simp
  low1 := by simp
  low2 := by simp
  low3 := by simp
  bot := by simp
def homeK (k : Nat) : Nat → Int := fun j => if j < k then -1 else 0
theorem homeK_zero : homeK 0 = fun _ => 0 := by funext j; simp [homeK]
theorem homeK_succ (k : Nat) : upd (homeK k) k (-1) = homeK (k + 1) := by
  funext j
  by_cases e : j = k
  · subst e; simp [upd_same, homeK]
  · rw [upd_other _ _ e]
    unfold homeK
    by_cases h : j < k
    · rw [if_pos h, if_pos (by omega)]
    · rw [if_neg h, if_neg (by omega)]
def IsLeastG (g : Gr) (n : Nat) (w : World) (e : Ending) (W' : World) : Prop := ∃ (h : Nat) (l : Nat → Nat), e = .returned (.slice (some ⟨h, 0, none⟩) n n) ∧ LstF g l ∧ Cells W' h (arrC n fun i => (l i : Int)) ∧ w.heap.size ≤ h ∧ Below w.heap.size w W'
set_option maxRecDepth 100000 in
set_option maxHeartbeats 8000000 in
theorem least_any (GA : Option Addr) (n gc : Nat) (g : Gr) (w : World) (hG : GrW w w.heap.size GA n gc g) (hnn : n ≤ 50) (hrow : ∀ i, (rowG g i).length ≤ 60) :
    Calls Try.prog 30 #[.slice GA n gc] w (IsLeastG g n w) := by
  obtain ⟨zc, hzc, hmk⟩ := made_int n (by omega)
  have hgl : g.length = n := hG.1
  have HG : Hid (∀ W, Below w.heap.size w W → GrW W w.heap.size GA n gc g) := Lib.hid fun W hW => hG.keep hW
  have HGL := Lib.hid hgl
  have HROW := Lib.hid hrow
  have HZ := Lib.hid hzc
  clear hG hgl hrow hzc
  go_enter Try.func30, Try.ntmps30
  go_upto_region 2 with fail
  go_cut [4, 9, 10, 11, 12, 13, 14, 15, 16, 17] (fun p4 p9 p10 p11 p12 p13 p14 p15 p16 p17 wx => ∃ s l h, p4 = .pointer (some ⟨w.heap.size + 1 + 1 + 1, 0, none⟩) ∧ Hid (SC w.heap.size (w.heap.size + 1 + 1 + 1 + 1) (w.heap.size + 1 + 1 + 1) s l h GA n gc none 0 0 none 0 0 [] (fun _ => 0) (fun _ => 0) [] (fun _ => 0) 0 wx ∧ Below w.heap.size w wx ∧ w.heap.size + 1 + 1 + 1 + 1 ≤ wx.heap.size))
  case first =>
    go_region
    all_goals go_simp
    all_goals apply_assumption
    all_goals go_meet
    all_goals exact ⟨_, _, _, rfl, Lib.hid (sc_new w zc GA n gc _ _ _ HZ.out (by first | exact (w3_at w zc).1 | exact (w3_at w zc).2.1 | exact (w3_at w zc).2.2) (by first | exact (w3_at w zc).1 | exact (w3_at w zc).2.1 | exact (w3_at w zc).2.2) (by first | exact (w3_at w zc).1 | exact (w3_at w zc).2.1 | exact (w3_at w zc).2.2) (by omega) _ rfl)⟩
  case rest =>
    obtain ⟨s, l, h, rfl, HH⟩ := hcut
    obtain ⟨q, hq⟩ : ∃ q, w.heap.size + 1 + 1 + 1 = q := ⟨_, rfl⟩
    obtain ⟨B2, hB2⟩ : ∃ B2, q + 1 = B2 := ⟨_, rfl⟩
    rw [hq] at HH
    rw [hB2] at HH
    have H := Lib.hid HH.out.1
    have HBW := Lib.hid HH.out.2.1
    have HBS := Lib.hid HH.out.2.2
    rw [hq]
    clear HH hq hB2
    have c0 := H.out.qc.at_ 0 _ rfl
    have c1 := H.out.qc.at_ 1 _ rfl
    have c2 := H.out.qc.at_ 2 _ rfl
    have c3 := H.out.qc.at_ 3 _ rfl
    have c4 := H.out.qc.at_ 4 _ rfl
    have c5 := H.out.qc.at_ 5 _ rfl
    have c6 := H.out.qc.at_ 6 _ rfl
    have f1 := H.out.qc.fz 1 (by simp)
    have f4 := H.out.qc.fz 4 (by simp)
    have f6 := H.out.qc.fz 6 (by simp)
    obtain ⟨n1, n2, n3, n4, n5, n6⟩ := H.out.ne
    have m1 : ¬ s = q := fun e => n1 e.symm
    have m2 : ¬ l = q := fun e => n2 e.symm
    have m3 : ¬ h = q := fun e => n3 e.symm
    have m4 : ¬ l = s := fun e => n4 e.symm
    have m5 : ¬ h = s := fun e => n5 e.symm
    have m6 : ¬ h = l := fun e => n6 e.symm
    have n1 : ¬ q = s := n1
    have n2 : ¬ q = l := n2
    have n3 : ¬ q = h := n3
    have n4 : ¬ s = l := n4
    have n5 : ¬ s = h := n5
    have n6 : ¬ l = h := n6
    go_wp2_with fail
    clear c0 c1 c2 c3 c4 c5 c6 f1 f4 f6
    go_loopw [23] (fun i wr => ∃ k : Nat, i = .int .i64 k ∧ k ≤ n ∧ Hid (SC w.heap.size B2 q s l h GA n gc none 0 0 none 0 0 [] (fun _ => 0) (fun _ => 0) [] (homeK k) 0 wr ∧ Below w.heap.size w wr ∧ B2 ≤ wr.heap.size)) (fun i _ => n - (intOf i).toNat)
    case atStart => exact ⟨0, rfl, Nat.zero_le _, Lib.hid ⟨by rw [homeK_zero]; exact H.out, HBW.out, HBS.out⟩⟩
    case round =>
      obtain ⟨k, rfl, hk, HK⟩ := hrel
      have HS := Lib.hid HK.out.1
      have HB := Lib.hid HK.out.2
      clear HK
      have hk0 : (0 : Int) ≤ (k : Int) := by omega
      have hkb : (k : Int) ≤ 50 := by omega
      have c0 := HS.out.qc.at_ 0 _ rfl
      have c1 := HS.out.qc.at_ 1 _ rfl
      have c2 := HS.out.qc.at_ 2 _ rfl
      have c3 := HS.out.qc.at_ 3 _ rfl
      have c4 := HS.out.qc.at_ 4 _ rfl
      have c5 := HS.out.qc.at_ 5 _ rfl
      have c6 := HS.out.qc.at_ 6 _ rfl
      have f1 := HS.out.qc.fz 1 (by simp)
      have f4 := HS.out.qc.fz 4 (by simp)
      have f6 := HS.out.qc.fz 6 (by simp)
      by_cases hlt : k < n
      · have hkn : (k : Int) < (n : Int) := by omega
        have h0 : wr.cell? ⟨h, k, none⟩ = some (.int .i64 (homeK k k)) := HS.out.hcc.at_ _ _ (arrC_at _ hlt)
        have h0f : wr.frozen? ⟨h, k, none⟩ = false := HS.out.hcc.fz _ (by rw [arrC_len]; exact hlt)
        have HN : Hid (SC w.heap.size B2 q s l h GA n gc none 0 0 none 0 0 [] (fun _ => 0) (fun _ => 0) [] (homeK (k + 1)) 0 (wr.setCell ⟨h, k, none⟩ (.int .i64 (-1))) ∧ Below w.heap.size w (wr.setCell ⟨h, k, none⟩ (.int .i64 (-1))) ∧ B2 ≤ (wr.setCell ⟨h, k, none⟩ (.int .i64 (-1))).heap.size) := Lib.hid (by
          refine ⟨?_, HB.out.1.setCell (p := ⟨h, k, none⟩) HS.out.lo.2.2.2.1 _, by simpa [World.setCell] using HB.out.2⟩
          rw [← homeK_succ]
          exact HS.out.setHome hlt _)
        go_wp2_with fail
        go_roundw
        case rel => exact ⟨k + 1, by go_num, by omega, HN⟩
        case measure => simp [intOf]; omega
      · obtain rfl : k = n := by omega
        have HI : Hid (Inv g [] (fun _ => 0) (fun _ => 0) [] (homeK k) 0) := Lib.hid (Inv.init fun v hv => by have := HGL.out; simp [homeK]; omega)
        go_wp2_with fail
        clear c0 c1 c2 c3 c4 c5 c6 f1 f4 f6
        go_loopw [35] (fun i wr => ∃ (j : Nat) (WA : Option Addr) (wc : Nat) (HA : Option Addr) (hc : Nat) (seen low : Nat → Nat) (home : Nat → Int) (clock : Nat), i = .int .i64 j ∧ j ≤ k ∧ Hid (SC w.heap.size B2 q s l h GA k gc WA 0 wc HA 0 hc [] seen low [] home clock wr ∧ Below w.heap.size w wr ∧ B2 ≤ wr.heap.size) ∧ Hid (Inv g [] seen low [] home clock ∧ ∀ u, u < j → seen u ≠ 0)) (fun i _ => k - (intOf i).toNat)
        case atStart => exact ⟨0, none, 0, none, 0, _, _, _, 0, rfl, Nat.zero_le _, Lib.hid ⟨HS.out, HB.out⟩, Lib.hid ⟨HI.out, fun u hu => by omega⟩⟩
        case round =>
          clear HS HB HI
          obtain ⟨j, WA, wc, HA, hc, seen, low, home, clock, rfl, hj, HK, HI⟩ := hrel
          have HS := Lib.hid HK.out.1
          have HB := Lib.hid HK.out.2
          clear HK
          have hj0 : (0 : Int) ≤ (j : Int) := by omega
          have hjb : (j : Int) ≤ 50 := by omega
          have c0 := HS.out.qc.at_ 0 _ rfl
          have c1 := HS.out.qc.at_ 1 _ rfl
          have c2 := HS.out.qc.at_ 2 _ rfl
          have c3 := HS.out.qc.at_ 3 _ rfl
          have c4 := HS.out.qc.at_ 4 _ rfl
          have c5 := HS.out.qc.at_ 5 _ rfl
          have c6 := HS.out.qc.at_ 6 _ rfl
          have f1 := HS.out.qc.fz 1 (by simp)
          have f4 := HS.out.qc.fz 4 (by simp)
          have f6 := HS.out.qc.fz 6 (by simp)
          by_cases hlt : j < k
          · have hjn : (j : Int) < (k : Int) := by omega
            have HLT := Lib.hid hlt
            have s0 : wr.cell? ⟨s, j, none⟩ = some (.int .i64 (seen j : Int)) := HS.out.sc.at_ _ _ (arrC_at _ hlt)
            by_cases hsz : seen j = 0
            · have t1 : ((seen j : Int) == 0) = true := by simp [hsz]
              have cF := Lib.hid (from_any w.heap.size B2 q s l h GA k gc g WA wc HA hc seen low home clock j wr HS.out HI.out.1 (fun W hW => HG.out W (HB.out.1.trans hW)) HB.out.2 hlt hsz hnn HROW.out HGL.out)
              clear hsz
              go_wp2_with fail
              refine cF.out.mono ?_
              rintro e w2 ⟨⟨_, rfl⟩, WA2, wc2, HA2, hc2, seen2, low2, home2, clock2, hS2, hI2, hm1, hm2, hb2⟩
              have HN : Hid (SC w.heap.size B2 q s l h GA k gc WA2 0 wc2 HA2 0 hc2 [] seen2 low2 [] home2 clock2 w2 ∧ Below w.heap.size w w2 ∧ B2 ≤ w2.heap.size) := Lib.hid ⟨hS2, HB.out.1.trans hb2, by have := hb2.size; have := HB.out.2; omega⟩
              have HI2 : Hid (Inv g [] seen2 low2 [] home2 clock2 ∧ ∀ u, u < j + 1 → seen2 u ≠ 0) := Lib.hid ⟨hI2, fun u hu => by
                by_cases e : u = j
                · subst e; exact hm2
                · exact hm1 u (HI.out.2 u (by omega))⟩
              clear hS2 hI2 hm1 hm2 hb2 cF
              go_wp2_with fail
              go_roundw
              case rel => exact ⟨j + 1, _, _, _, _, _, _, _, _, by go_num, by omega, HN, HI2⟩
              case measure => simp [intOf]; omega
            · have t1 : ((seen j : Int) == 0) = false := by simp; omega
              have HI2 : Hid (Inv g [] seen low [] home clock ∧ ∀ u, u < j + 1 → seen u ≠ 0) := Lib.hid ⟨HI.out.1, fun u hu => by
                by_cases e : u = j
                · subst e; exact hsz
                · exact HI.out.2 u (by omega)⟩
              clear hsz
              go_wp2_with fail
              go_roundw
              case rel => exact ⟨j + 1, _, _, _, _, _, _, _, _, by go_num, by omega, Lib.hid ⟨HS.out, HB.out⟩, HI2⟩
              case measure => simp [intOf]; omega
          · obtain rfl : j = k := by omega
            have hfin : ∀ v, v < j → IsLst g v (home v).toNat ∧ 0 ≤ home v := fun v hv => HI.out.1.done (by rw [HGL.out]; exact hv) (HI.out.2 v hv)
            have HF := Lib.hid hfin
            clear hfin
            go_wp2_with fail
            go_ret
            refine ⟨h, fun v => (home v).toNat, rfl, fun v hv => (HF.out v (by rw [← HGL.out]; exact hv)).1, ?_, HS.out.lo.2.2.2.1, HB.out.1⟩
            have h1 := HS.out.hcc
            rwa [arrC_congr (f' := fun i => (((home i).toNat : Nat) : Int)) (fun i hi => by have := (HF.out i hi).2; omega)] at h1
end Go.Proofs.Ytnfoahcdmaphnaa
