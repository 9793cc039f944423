/-
  Circles: the program's order.
-/
import Derived.Test.YtnfoahcdmaphnaaSc5
namespace Go.Proofs.Ytnfoahcdmaphnaa
open Go.RowKit
set_option linter.unusedSimpArgs false
set_option linter.unusedVariables false
theorem info_bool : (Try.prog.info? 4).map (fun i => (i.zero, i.size, i.bytes)) = some (some (.bool false), 1, 1) := by kernel_rfl
theorem made_bool (n : Nat) (hn : n ≤ 1000) : ∃ zc : Array Value, zc.toList = arrB n (fun _ => false) ∧ ∀ W, (Instr.makeSlice 55 (.int .i64 (n : Int)) (.int .i64 (n : Int))).run Try.prog W = .ok (.slice (some ⟨W.heap.size, 0, none⟩) n n) (W.alloc (.cells zc 4)) := by
  obtain ⟨i0, hi, hz0, hz1, hz2⟩ := info_parts info_bool
  refine ⟨madeCells (Value.bool false).cells (n * i0.size), ?_, fun W => ?_⟩
  · rw [hz1, Nat.mul_one]
    rw [show (Value.bool false).cells = #[Value.bool false] from rfl, toList_madeCells_one]
    apply List.ext_getElem?
    intro j
    by_cases hj : j < n
    · rw [arrB_at _ hj]; simp [hj]
    · rw [List.getElem?_eq_none (by simp; omega), List.getElem?_eq_none (by rw [arrB_len]; omega)]
  · have := run_make (P := Try.prog) W 55 4 i0 _ Try.underlying55 hi hz0 .i64 .i64 (n : Int) (n : Int) (by omega) (by omega) (by rw [hz2]; omega) (by omega)
    simpa using this
theorem rowN_eq (l : List Nat) : rowN l = rowI (l.map fun i : Nat => (i : Int)) := by
  unfold rowN rowI
  rw [List.map_map]
  rfl
/-- A frame told by a function. -/
theorem frame46 (a : Act) (h1 : a.defers = []) (h2 : a.tmps.size = 46) : ∃ f : Nat → Value, a = { tmps := #[f 0, f 1, f 2, f 3, f 4, f 5, f 6, f 7, f 8, f 9, f 10, f 11, f 12, f 13, f 14, f 15, f 16, f 17, f 18, f 19, f 20, f 21, f 22, f 23, f 24, f 25, f 26, f 27, f 28, f 29, f 30, f 31, f 32, f 33, f 34, f 35, f 36, f 37, f 38, f 39, f 40, f 41, f 42, f 43, f 44, f 45], defers := [] } ∧ ∀ i, i < 46 → a.tmps[i]? = some (f i) := by
  obtain ⟨t, ds⟩ := a
  dsimp only at h1 h2
  subst h1
  obtain ⟨l⟩ := t
  simp at h2
  refine ⟨fun i => (l[i]?).getD undef, ?_, fun i hi => ?_⟩
  · have e := lst_of l (fun i => (l[i]?).getD undef) 0 (fun j v hj => by simp [hj])
    rw [h2] at e
    conv => lhs; rw [e]
    rfl
  · have : i < l.length := by omega
    simp [this]
def IsOrd (g : Gr) (w : World) (e : Ending) (w' : World) : Prop := ∃ (A : Option Addr) (m c : Nat) (o : List Nat) (l : Nat → Nat) (d : Nat → Bool), e = .returned (.slice A m c) ∧ w'.ownsRow w.heap.size 3 1 (.slice A m c) m (rowN o) ∧ LstF g l ∧ Picks g l d o ∧ (∀ x, ¬ Cand g l d x) ∧ Below w.heap.size w w'
def outLen (a : Act) : Nat := match (a.tmps[3]? : Option Value) with
  | some (Value.slice _ m _) => m
  | _ => 0
structure GoodO (w : World) (n : Nat) (g : Gr) (l : Nat → Nat) (h db : Nat) (OA : Option Addr) (m oc : Nat) (W : World) : Prop where
  ex : ∃ d o, W.ownsRow (db + 1) 3 1 (.slice OA m oc) m (rowN o) ∧ Picks g l d o ∧ Cells W db (arrB n d)
  hc : Cells W h (arrC n fun i => (l i : Int))
  ne : h < db ∧ w.heap.size ≤ db
  bw : Below w.heap.size w W
set_option maxRecDepth 100000 in
set_option maxHeartbeats 8000000 in
theorem order_any (GA : Option Addr) (n gc : Nat) (g : Gr) (w : World) (hG : GrW w w.heap.size GA n gc g) (hnn : n ≤ 50) (hrow : ∀ i, (rowG g i).length ≤ 60) :
    Calls Try.prog 20 #[.slice GA n gc] w (IsOrd g w) := by
  obtain ⟨i0, hi, hz0, hz1, hz2⟩ := info_parts info_int
  obtain ⟨zc, hzc, hmk⟩ := made_bool n (by omega)
  have cL := Lib.hid (least_any GA n gc g w hG hnn hrow)
  have hgl : g.length = n := hG.1
  have HG : Hid (∀ W, Below w.heap.size w W → GrW W w.heap.size GA n gc g) := Lib.hid fun W hW => hG.keep hW
  have HGL := Lib.hid hgl
  have HROW := Lib.hid hrow
  have HZ := Lib.hid hzc
  clear hG hgl hrow hzc
  go_enter Try.func20, Try.ntmps20
  go_wp2_with fail
  refine wp_scope_two 0 (fun a W => ∃ (h db : Nat) (l : Nat → Nat) (OA : Option Addr) (m oc : Nat), (a.defers = [] ∧ a.tmps.size = 46 ∧ a.tmps[0]? = some (.slice GA n gc) ∧ a.tmps[3]? = some (.slice OA m oc) ∧ a.tmps[4]? = some (.slice (some ⟨h, 0, none⟩) n n) ∧ a.tmps[5]? = some (.slice (some ⟨db, 0, none⟩) n n)) ∧ LstF g l ∧ GoodO w n g l h db OA m oc W) (fun a _ => 51 - outLen a) rfl ?_ ?_
  · rintro a0 w0 ⟨h, db, l, OA, m, oc, ⟨X1, X2, X3, X4, X5, X6⟩, hl, hgo⟩ Jx hJx
    have HLEN : Hid (outLen a0 = m) := Lib.hid (by unfold outLen; rw [X4])
    obtain ⟨f, rfl, hf⟩ := frame46 a0 X1 X2
    have e0 : f 0 = .slice GA n gc := Option.some.inj ((hf 0 (by omega)).symm.trans X3)
    have e3 : f 3 = .slice OA m oc := Option.some.inj ((hf 3 (by omega)).symm.trans X4)
    have e4 : f 4 = .slice (some ⟨h, 0, none⟩) n n := Option.some.inj ((hf 4 (by omega)).symm.trans X5)
    have e5 : f 5 = .slice (some ⟨db, 0, none⟩) n n := Option.some.inj ((hf 5 (by omega)).symm.trans X6)
    have HJ := Lib.hid hJx
    have HL := Lib.hid hl
    have HGO := Lib.hid hgo
    clear X1 X2 X3 X4 X5 X6 hf hl hgo hJx
    rw [e0, e3, e4, e5] at HLEN ⊢
    rw [e0, e3, e4, e5] at HJ
    clear e0 e3 e4 e5
    obtain ⟨d, o, hown, hpk, hdc⟩ := HGO.out.ex
    have HO := Lib.hid hown
    have HP := Lib.hid hpk
    have HD := Lib.hid hdc
    have hm40 : m ≤ 50 := by have h1 := hpk.len; have h2 := hown.1; unfold rowN at h2; rw [List.length_map] at h2; have := HGL.out; omega
    have HMO : Hid (o.length = m) := Lib.hid (by have h2 := hown.1; unfold rowN at h2; rw [List.length_map] at h2; omega)
    clear hown hpk hdc
    go_wp2_with fail
    go_loop [3, 15] (fun ov i => ∃ k : Nat, ov = .slice OA m oc ∧ i = .int .i64 k ∧ k ≤ n ∧ Hid (∀ x, x < k → ¬ Cand g l d x)) (fun _ i => n - (intOf i).toNat)
    case atStart => exact ⟨0, rfl, rfl, Nat.zero_le _, Lib.hid fun x hx => by omega⟩
    case round =>
      obtain ⟨k, rfl, rfl, hk, HNC⟩ := hrel
      have hk0 : (0 : Int) ≤ (k : Int) := by omega
      have hkb : (k : Int) ≤ 50 := by omega
      by_cases hlt : k < n
      · have hkn : (k : Int) < (n : Int) := by omega
        have l0 : w0.cell? ⟨h, k, none⟩ = some (.int .i64 (l k : Int)) := HGO.out.hc.at_ _ _ (arrC_at _ hlt)
        have d0 : w0.cell? ⟨db, k, none⟩ = some (.bool (d k)) := HD.out.at_ _ _ (arrB_at _ hlt)
        have d0f : w0.frozen? ⟨db, k, none⟩ = false := HD.out.fz _ (by rw [arrB_len]; exact hlt)
        have HLT := Lib.hid hlt
        have HNX : Hid (¬ Cand g l d k → ∀ x, x < k + 1 → ¬ Cand g l d x) := Lib.hid fun hc x hx => by
          by_cases e : x = k
          · subst e; exact hc
          · exact HNC.out x (by omega)
        by_cases hlk : l k = k
        · have t1 : ((k : Int) == (l k : Int)) = true := by simp [hlk]
          have t1' : ((k : Int) == (k : Int)) = true := by simp
          cases hdk : d k with
          | true =>
            rw [hdk] at d0
            have HN := Lib.hid (HNX.out (fun hc => by have := hc.new; rw [hdk] at this; cases this))
            clear hlk hdk
            go_wp2_with fail
            go_round
            case rel => exact ⟨k + 1, rfl, by go_num, by omega, HN⟩
            case measure => simp [intOf]; omega
          | false =>
            rw [hdk] at d0
            have cF := Lib.hid (free_any GA n gc h db g l d w.heap.size k w0 (HG.out w0 HGO.out.bw) hnn HROW.out HL.out HGO.out.hc HD.out)
            have HLK := Lib.hid hlk
            have HDK := Lib.hid hdk
            clear hlk hdk
            go_wp2_with fail
            refine cF.out.mono ?_
            rintro e w' ⟨r, rfl, hr, rfl⟩
            have hfi := free_iff HL.out (HP.out.dc HL.out) (by rw [HGL.out]; exact HLT.out) HLK.out
            cases r with
            | false =>
              have HN := Lib.hid (HNX.out (fun hc => by have h1 := hr.2 (hfi.2 hc.free); cases h1))
              clear hr hfi cF
              go_wp2_with fail
              go_round
              case rel => exact ⟨k + 1, rfl, by go_num, by omega, HN⟩
              case measure => simp [intOf]; omega
            | true =>
              have HC : Hid (Cand g l d k) := Lib.hid ⟨by rw [HGL.out]; exact HLT.out, HLK.out, HDK.out, hfi.1 (hr.1 rfl)⟩
              have HPK := Lib.hid (HP.out.pick HC.out (fun x hx => HNC.out x hx))
              clear hr hfi cF
              go_upto_region 9 with fail
              obtain ⟨w1, hw1⟩ : ∃ X, w0.setCell ⟨db, k, none⟩ (.bool true) = X := ⟨_, rfl⟩
              have hkp : Kp (fun j => j = db) w0 w1 := by rw [← hw1]; exact kp_set w0 db k _
              have HD1 : Hid (Cells w1 db (arrB n (upd d k true))) := Lib.hid (by
                rw [← hw1, ← arrB_set]
                exact HD.out.put k (by rw [arrB_len]; exact HLT.out) _)
              have HH1 : Hid (Cells w1 h (arrC n fun i => (l i : Int))) := Lib.hid (HGO.out.hc.kp hkp (by have := HGO.out.ne.1; omega))
              have HO1 : Hid (w1.ownsRow (db + 1) 3 1 (.slice OA m oc) m (rowN o)) := Lib.hid (hkp.own HO.out (fun j hj e => by have := (HO.out.lt j hj).1; omega))
              have HB1 : Hid (Below w.heap.size w w1) := Lib.hid (HGO.out.bw.trans (hkp.below HGO.out.bw.size (fun j hj => by have hj' : j = db := hj; have := HGO.out.ne.2; omega)))
              have HS1 : Hid (db + 1 ≤ w1.heap.size) := Lib.hid (by have := HD1.out.lt; omega)
              rw [hw1]
              clear hw1 hkp l0 d0 d0f
              have hsrc := Lib.hid (src_int w1 (k : Int))
              go_wp2_with (first
                | (at_builtin; go_must (refine wpList_append_src _ rfl _ _ 31 rfl (db + 1) 3 i0 (.int .i64 0) 1 8 Try.underlying31 hi hz0 hz1 hz2 rfl (by decide) _ _ _ rfl (HO1.out.alloc _) (some ⟨w1.heap.size, 0, none⟩) 1 1 [.int .i64 (k : Int)] rfl hsrc.out (one_int (k : Int)) (by unfold maxLen; omega) (by omega) (by have := HS1.out; simp; omega) ?_)
                   intro v' w3 hown' hgrow3 hat3
                   obtain ⟨A', c', rfl, XO, XK, XA⟩ := push_hd hown' hgrow3 hat3
                   have HO3 := Lib.hid XO
                   have HK3 := Lib.hid XK
                   clear XO XK XA hown' hgrow3 hat3)
                | fail)
              have HG3 : Hid (GoodO w n g l h db A' (m + 1) c' w3) := Lib.hid ⟨⟨_, _, HO3.out, HPK.out, HD1.out.kp HK3.out (fun e => by have := (HO1.out.lt _ e).1; omega)⟩, HH1.out.kp HK3.out (fun e => by have := (HO1.out.lt _ e).1; have := HGO.out.ne.1; omega), HGO.out.ne, HB1.out.trans (HK3.out.below HB1.out.size (fun j hj => by have := (HO1.out.lt _ hj).1; have := HGO.out.ne.2; omega))⟩
              go_step3
              refine ⟨rfl, HJ.out _ _ ⟨h, db, l, A', m + 1, c', ⟨rfl, rfl, rfl, rfl, rfl, rfl⟩, HL.out, HG3.out⟩ ?_⟩
              rw [HLEN.out]
              show 51 - (m + 1) < 51 - m
              omega
        · have t1 : ((k : Int) == (l k : Int)) = false := by simp; omega
          have HN := Lib.hid (HNX.out (fun hc => hlk hc.self))
          clear hlk
          go_wp2_with fail
          go_round
          case rel => exact ⟨k + 1, rfl, by go_num, by omega, HN⟩
          case measure => simp [intOf]; omega
      · obtain rfl : k = n := by omega
        have HNO : Hid (∀ x, ¬ Cand g l d x) := Lib.hid fun x hc => HNC.out x (by have := hc.lt; have := HGL.out; omega) hc
        go_wp2_with fail
        simp only [Exit.jump]
        go_ret
        exact ⟨OA, m, oc, o, l, d, rfl, own_less HO.out (by have := HGO.out.ne.2; omega), HL.out, HP.out, HNO.out, HGO.out.bw⟩
  · intro hpass
    have HPS := Lib.hid hpass
    clear hpass
    go_wp2_with fail
    refine cL.out.mono ?_
    rintro e w1 ⟨h, l, rfl, hl, hc, hh1, hb1⟩
    have HL := Lib.hid hl
    have HH := Lib.hid hc
    have HB1 := Lib.hid hb1
    have HH1 := Lib.hid hh1
    clear hl hc hb1 hh1 cL
    go_wp2_with fail
    go_step3
    apply_assumption
    refine HPS.out _ _ ?_
    have hdb : Cells (w1.alloc (.cells zc 4)) w1.heap.size (arrB n fun _ => false) := by rw [← HZ.out]; exact Cells.new w1 zc.toList _
    exact ⟨h, w1.heap.size, l, none, 0, 0, ⟨rfl, rfl, rfl, rfl, rfl, rfl⟩, HL.out, ⟨⟨_, [], ⟨rfl, .inl ⟨rfl, rfl⟩⟩, .start, hdb⟩, HH.out.on (bl_one _), ⟨HH.out.lt, HB1.out.size⟩, HB1.out.alloc HB1.out.size _⟩⟩
end Go.Proofs.Ytnfoahcdmaphnaa
