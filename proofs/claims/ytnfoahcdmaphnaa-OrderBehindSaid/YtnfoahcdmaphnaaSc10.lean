/-
  Circles, the document's: the order of those that stand for all.
-/
import Derived.Test.YtnfoahcdmaphnaaSc9
namespace Go.Proofs.Ytnfoahcdmaphnaa
open Go.RowKit
set_option linter.unusedSimpArgs false
set_option linter.unusedVariables false
theorem GrW.more {w : World} {B B' : Nat} {A : Option Addr} {n c : Nat} {g : Gr} (h : GrW w B A n c g) (hB : B ≤ B') : GrW w B' A n c g := by
  obtain ⟨h1, h2, h3, h4, h5⟩ := h
  refine ⟨h1, h2, h3, h4, fun hn => ?_⟩
  obtain ⟨b, off, hA, hb, hx⟩ := h5 hn
  refine ⟨b, off, hA, by omega, fun i x hi => ?_⟩
  obtain ⟨cs, hl, hc, A', n', c', e, q⟩ := hx i x hi
  exact ⟨cs, hl, hc, A', n', c', e, SlR.more q hB⟩
theorem lst_cells {W : World} {base : Nat} {A : Option Addr} {n c : Nat} {l : Nat → Nat} (h : W.ownsRow base 3 1 (.slice A n c) n (rowN (lstL l n))) (h0 : 0 < n) : ∃ a, A = some ⟨a, 0, none⟩ ∧ base ≤ a ∧ Cells W a (arrC n fun i => (l i : Int)) := by
  rcases h.2 with ⟨hv, rfl⟩ | ⟨g, cap, cur, hv, hb, _⟩
  · omega
  · simp only [Value.slice.injEq, true_and] at hv
    obtain ⟨rfl, rfl⟩ := hv
    have e : rowN (lstL l n) = arrC n (fun i => (l i : Int)) := by
      unfold rowN lstL arrC
      rw [List.map_map]
      rfl
    have := Cells.own h
    rw [e] at this
    exact ⟨g, rfl, hb, this⟩
def OkAt (g : Gr) (l : Nat → Nat) (d : Nat → Bool) (i j : Nat) : Prop := ∀ u, u < j → Rp g i u → l u ≠ i → d (l u) = true
structure GoodD (w : World) (base n : Nat) (g : Gr) (RA : Option Addr) (rc : Nat) (rb : Nat → Nat) (r : Nat → Nat → Bool) (l : Nat → Nat) (la db : Nat) (OA : Option Addr) (m oc : Nat) (d : Nat → Bool) (o : List Nat) (W : World) : Prop where
  own : W.ownsRow (db + 1) 3 1 (.slice OA m oc) m (rowN o)
  pk : Picks g l d o
  dc : Cells W db (arrB n d)
  lc : 0 < n → Cells W la (arrC n fun i => (l i : Int))
  mc : MatW base n RA n rc rb r W
  ne : (0 < n → la < db) ∧ w.heap.size ≤ db ∧ (∀ i, i < n → rb i < db) ∧ (∀ j, (Value.slice RA n rc).ownBlock = some j → j < db)
  bw : Below w.heap.size w W
theorem GoodD.len {w : World} {base n : Nat} {g : Gr} {RA : Option Addr} {rc : Nat} {rb : Nat → Nat} {r : Nat → Nat → Bool} {l : Nat → Nat} {la db : Nat} {OA : Option Addr} {m oc : Nat} {d : Nat → Bool} {o : List Nat} {W : World} (h : GoodD w base n g RA rc rb r l la db OA m oc d o W) : o.length = m := by
  have h2 := h.own.1
  unfold rowN at h2
  rw [List.length_map] at h2
  omega
set_option maxRecDepth 100000 in
set_option maxHeartbeats 8000000 in
theorem rorder_any (GA : Option Addr) (n gc : Nat) (g : Gr) (w : World) (hG : GrW w w.heap.size GA n gc g) (hnn : n ≤ 50) (hrow : ∀ i, (rowG g i).length ≤ 60) :
    Calls Try.prog 22 #[.slice GA n gc] w (IsOrd g w) := by
  obtain ⟨i0, hi_, hz0, hz1, hz2⟩ := info_parts info_int
  obtain ⟨zc, hzc, hmk⟩ := made_bool n (by omega)
  have cC := Lib.hid (comes_any GA n gc g w hG hnn hrow)
  have cL : Hid (∀ W, Below w.heap.size w W → Calls Try.prog 33 #[.slice GA n gc] W (IsLeastD g n W)) := Lib.hid fun W hW => rleast_any GA n gc g W (GrW.more (hG.keep hW) hW.size) hnn hrow
  have HGL : Hid (g.length = n) := Lib.hid hG.1
  have HZ := Lib.hid hzc
  clear hG hrow hzc
  go_enter Try.func22, Try.ntmps22
  go_wp2_with fail
  refine cC.out.mono ?_
  rintro e w1 ⟨RA, rc, rb, r, rfl, hM, hR, hb1⟩
  have HM := Lib.hid hM
  have HR := Lib.hid hR
  have HB1 := Lib.hid hb1
  clear hM hR hb1 cC
  go_wp2_with fail
  refine (cL.out w1 HB1.out).mono ?_
  rintro e w2 ⟨LA, lcap, l, rfl, hlo, hl, hb2⟩
  have HL := Lib.hid hl
  have HB2 : Hid (Below w.heap.size w w2) := Lib.hid (HB1.out.trans (hb2.mono HB1.out.size))
  obtain ⟨la, hla⟩ : ∃ la, 0 < n → LA = some ⟨la, 0, none⟩ ∧ Cells w2 la (arrC n fun i => (l i : Int)) := by
    rcases Nat.eq_zero_or_pos n with h | h
    · exact ⟨0, fun h0 => by omega⟩
    · obtain ⟨a, e, _, hc⟩ := lst_cells hlo h
      exact ⟨a, fun _ => ⟨e, hc⟩⟩
  have HLA : Hid (0 < n → LA = some ⟨la, 0, none⟩) := Lib.hid fun h => (hla h).1
  obtain ⟨db, hdb⟩ : ∃ db, w2.heap.size = db := ⟨_, rfl⟩
  have HG3 : Hid (GoodD w w.heap.size n g RA rc rb r l la db none 0 0 (fun _ => false) [] (w2.alloc (.cells zc 4))) := Lib.hid (by
    have hbo := bl_one (w := w2) (.cells zc 4)
    refine ⟨⟨rfl, .inl ⟨rfl, rfl⟩⟩, .start, ?_, fun h => (hla h).2.on hbo, (HM.out.on hb2).on hbo, ⟨fun h => by have := (hla h).2.lt; omega, by have := HB2.out.size; omega, fun i hi => by have := ((HM.out.on hb2).rows i hi).1.lt; omega, fun j hj => by have := ((HM.out.on hb2).own.lt j hj).2; omega⟩, HB2.out.alloc HB2.out.size _⟩
    rw [← HZ.out, ← hdb]
    exact Cells.new w2 zc.toList _)
  obtain ⟨w3, hw3⟩ : ∃ X, w2.alloc (.cells zc 4) = X := ⟨_, rfl⟩
  rw [hw3] at HG3
  clear hlo hl hb2 hla HM
  go_wp2_with fail
  clear hw3 hdb
  go_loopw [3, 7] (fun ov kv wr => ∃ (k m oc : Nat) (OA : Option Addr) (d : Nat → Bool) (o : List Nat), ov = .slice OA m oc ∧ kv = .int .i64 k ∧ k ≤ n ∧ Hid (GoodD w w.heap.size n g RA rc rb r l la db OA m oc d o wr) ∧ Hid (m = k ∨ ∀ x, ¬ Cand g l d x)) (fun _ kv _ => n - (intOf kv).toNat)
  case atStart => exact ⟨0, 0, 0, none, _, _, rfl, rfl, Nat.zero_le _, HG3, Lib.hid (.inl rfl)⟩
  case round =>
    clear HG3
    obtain ⟨k, m, oc, OA, d, o, rfl, rfl, hk, HGD, HQ⟩ := hrel
    have hk0 : (0 : Int) ≤ (k : Int) := by omega
    have hkb : (k : Int) ≤ 50 := by omega
    have hm40 : m ≤ 50 := by have h1 := HGD.out.pk.len; have h2 := HGD.out.len; have := HGL.out; omega
    by_cases hkl : k < n
    · have hkn : (k : Int) < (n : Int) := by omega
      have HKL := Lib.hid hkl
      obtain rfl := HLA.out (by omega)
      go_wp2_with fail
      go_loop [3, 8] (fun ov iv => ∃ i : Nat, ov = .slice OA m oc ∧ iv = .int .i64 i ∧ i ≤ n ∧ Hid (∀ x, x < i → ¬ Cand g l d x)) (fun _ iv => n - (intOf iv).toNat)
      case atStart => exact ⟨0, rfl, rfl, Nat.zero_le _, Lib.hid fun x hx => by omega⟩
      case round =>
        obtain ⟨i, rfl, rfl, hi, HNC⟩ := hrel
        have hi0 : (0 : Int) ≤ (i : Int) := by omega
        have hib : (i : Int) ≤ 50 := by omega
        have HNX : Hid (¬ Cand g l d i → ∀ x, x < i + 1 → ¬ Cand g l d x) := Lib.hid fun hc x hx => by
          by_cases e : x = i
          · subst e; exact hc
          · exact HNC.out x (by omega)
        by_cases hil : i < n
        · have hin : (i : Int) < (n : Int) := by omega
          have HIL := Lib.hid hil
          have l0 : wr.cell? ⟨la, i, none⟩ = some (.int .i64 (l i : Int)) := (HGD.out.lc (by omega)).at_ _ _ (arrC_at _ hil)
          have d0 : wr.cell? ⟨db, i, none⟩ = some (.bool (d i)) := HGD.out.dc.at_ _ _ (arrB_at _ hil)
          have d0f : wr.frozen? ⟨db, i, none⟩ = false := HGD.out.dc.fz _ (by rw [arrB_len]; exact hil)
          by_cases hlk : l i = i
          · have t1 : ((l i : Int) != (i : Int)) = false := by simp [hlk]
            have t1' : ((i : Int) != (i : Int)) = false := by simp
            have HLK := Lib.hid hlk
            cases hdk : d i with
            | true =>
              rw [hdk] at d0
              have HN := Lib.hid (HNX.out (fun hc => by have := hc.new; rw [hdk] at this; cases this))
              clear hlk hdk
              go_wp2_with fail
              go_round
              case rel => exact ⟨i + 1, rfl, by go_num, by omega, HN⟩
              case measure => simp [intOf]; omega
            | false =>
              rw [hdk] at d0
              have HDK := Lib.hid hdk
              clear hlk hdk
              go_wp2_with fail
              go_loop [9, 10] (fun ev jv => ∃ (j : Nat) (t : Bool), ev = .bool t ∧ jv = .int .i64 j ∧ j ≤ n ∧ Hid (t = true ↔ OkAt g l d i j)) (fun _ jv => n - (intOf jv).toNat)
              case atStart => exact ⟨0, true, rfl, rfl, Nat.zero_le _, Lib.hid ⟨fun _ u hu => by omega, fun _ => rfl⟩⟩
              case round =>
                obtain ⟨j, t, rfl, rfl, hj, HT⟩ := hrel
                have hj0 : (0 : Int) ≤ (j : Int) := by omega
                have hjb : (j : Int) ≤ 50 := by omega
                have HSTEP : Hid ((Rp g i j → l j ≠ i → d (l j) = true) → (t = true ↔ OkAt g l d i (j + 1))) := Lib.hid fun h => by
                  rw [HT.out]
                  constructor
                  · intro h1 u hu
                    by_cases e : u = j
                    · subst e; exact h
                    · exact h1 u (by omega)
                  · exact fun h1 u hu => h1 u (by omega)
                by_cases hjl : j < n
                · have hjn : (j : Int) < (n : Int) := by omega
                  obtain ⟨ra, rfl, x0, x1, _⟩ := HGD.out.mc.at_ HIL.out hjl
                  have m0 : wr.cell? ⟨la, j, none⟩ = some (.int .i64 (l j : Int)) := (HGD.out.lc (by omega)).at_ _ _ (arrC_at _ hjl)
                  have hlt2 : l j < n := by have := HL.out.lt (v := j) (by have := HGL.out; omega); have := HGL.out; omega
                  have d1 : wr.cell? ⟨db, l j, none⟩ = some (.bool (d (l j))) := HGD.out.dc.at_ _ _ (arrB_at _ hlt2)
                  have hlj0 : (0 : Int) ≤ (l j : Int) := by omega
                  have hljn : (l j : Int) < (n : Int) := by omega
                  clear hlt2
                  cases h1 : r i j with
                  | false =>
                    rw [h1] at x1
                    have HN := Lib.hid (HSTEP.out (fun h => by rw [← HR.out, h1] at h; cases h))
                    clear h1
                    go_wp2_with fail
                    go_round
                    case rel => exact ⟨j + 1, t, rfl, by go_num, by omega, HN⟩
                    case measure => simp [intOf]; omega
                  | true =>
                    rw [h1] at x1
                    have HRP : Hid (Rp g i j) := Lib.hid ((HR.out i j).1 h1)
                    clear h1
                    by_cases hlj : l j = i
                    · have t3 : ((l j : Int) != (i : Int)) = false := by simp [hlj]
                      have HN := Lib.hid (HSTEP.out (fun _ h => absurd hlj h))
                      clear hlj
                      go_wp2_with fail
                      go_round
                      case rel => exact ⟨j + 1, t, rfl, by go_num, by omega, HN⟩
                      case measure => simp [intOf]; omega
                    · have t3 : ((l j : Int) != (i : Int)) = true := by simp; omega
                      cases hdj : d (l j) with
                      | true =>
                        rw [hdj] at d1
                        have HN := Lib.hid (HSTEP.out (fun _ _ => hdj))
                        clear hlj hdj
                        go_wp2_with fail
                        go_round
                        case rel => exact ⟨j + 1, t, rfl, by go_num, by omega, HN⟩
                        case measure => simp [intOf]; omega
                      | false =>
                        rw [hdj] at d1
                        have HN : Hid (false = true ↔ OkAt g l d i (j + 1)) := Lib.hid ⟨(fun h => by cases h), fun h => by
                          have := h j (by omega) HRP.out hlj
                          rw [hdj] at this
                          cases this⟩
                        clear hlj hdj
                        go_wp2_with fail
                        go_round
                        case rel => exact ⟨j + 1, false, rfl, by go_num, by omega, HN⟩
                        case measure => simp [intOf]; omega
                · obtain rfl : j = n := by omega
                  have HFD : Hid (t = true ↔ FreeD g l d i) := Lib.hid (by
                    rw [HT.out]
                    constructor
                    · exact fun h u hu => h u (by have := hu.rs.lt hu.lt; have := HGL.out; omega) hu
                    · exact fun h u _ hu => h u hu)
                  cases t with
                  | false =>
                    have HN := Lib.hid (HNX.out (fun hc => by have := HFD.out.2 hc.free; cases this))
                    go_wp2_with fail
                    go_round
                    case rel => exact ⟨i + 1, rfl, by go_num, by omega, HN⟩
                    case measure => simp [intOf]; omega
                  | true =>
                    have HC : Hid (Cand g l d i) := Lib.hid ⟨by rw [HGL.out]; exact HIL.out, HLK.out, HDK.out, HFD.out.1 rfl⟩
                    have HPK := Lib.hid (HGD.out.pk.pick HC.out (fun x hx => HNC.out x hx))
                    have HMK : Hid (m = k) := Lib.hid (HQ.out.resolve_right (fun h => h i HC.out))
                    go_upto_region 20 with fail
                    obtain ⟨w4, hw4⟩ : ∃ X, wr.setCell ⟨db, i, none⟩ (.bool true) = X := ⟨_, rfl⟩
                    have hkp : Kp (fun j => j = db) wr w4 := by rw [← hw4]; exact kp_set wr db i _
                    have HG4 : Hid (GoodD w w.heap.size j g RA rc rb r l la db OA m oc d o wr → w4.ownsRow (db + 1) 3 1 (.slice OA m oc) m (rowN o) ∧ Cells w4 db (arrB j (upd d i true)) ∧ (0 < j → Cells w4 la (arrC j fun i => (l i : Int))) ∧ MatW w.heap.size j RA j rc rb r w4 ∧ Below w.heap.size w w4) := Lib.hid fun h => by
                      refine ⟨hkp.own h.own (fun b hb e => by have := (h.own.lt b hb).1; omega), ?_, fun h0 => (h.lc h0).kp hkp (by have := h.ne.1 h0; omega), h.mc.kp hkp (fun b hb => by
                        have hb' : b = db := hb
                        exact ⟨fun a ha => by have := h.ne.2.2.1 a ha; omega, fun e => by have := h.ne.2.2.2 b e; omega⟩), h.bw.trans (hkp.below h.bw.size (fun b hb => by have hb' : b = db := hb; have := h.ne.2.1; omega))⟩
                      rw [← hw4, ← arrB_set]
                      exact h.dc.put i (by rw [arrB_len]; exact HIL.out) _
                    have H4 := Lib.hid (HG4.out HGD.out)
                    have HS4 : Hid (db + 1 ≤ w4.heap.size) := Lib.hid (by have := H4.out.2.1.lt; omega)
                    rw [hw4]
                    clear hw4 hkp l0 d0 d0f HG4
                    have hsrc := Lib.hid (src_int w4 (i : Int))
                    go_wp2_with (first
                      | (at_builtin; go_must (refine wpList_append_src _ rfl _ _ 31 rfl (db + 1) 3 i0 (.int .i64 0) 1 8 Try.underlying31 hi_ hz0 hz1 hz2 rfl (by decide) _ _ _ rfl (H4.out.1.alloc _) (some ⟨w4.heap.size, 0, none⟩) 1 1 [.int .i64 (i : Int)] rfl hsrc.out (one_int (i : Int)) (by unfold maxLen; omega) (by omega) (by have := HS4.out; simp; omega) ?_)
                         intro v' w5 hown' hgrow3 hat3
                         obtain ⟨A', c', rfl, XO, XK, XA⟩ := push_hd hown' hgrow3 hat3
                         have HN : Hid (GoodD w w.heap.size j g RA rc rb r l la db A' (m + 1) c' (upd d i true) (o ++ [i]) w5) := Lib.hid (by
                           have no : ∀ b, b < db + 1 → ¬ (Value.slice OA m oc).ownBlock = some b := fun b hb e => by have := (H4.out.1.lt b e).1; omega
                           exact ⟨XO, HPK.out, H4.out.2.1.kp XK (no db (by omega)), fun h0 => (H4.out.2.2.1 h0).kp XK (no la (by have := HGD.out.ne.1 h0; omega)), H4.out.2.2.2.1.kp XK (fun b hb => ⟨fun a ha e => no (rb a) (by have := HGD.out.ne.2.2.1 a ha; omega) (by rw [e]; exact hb), fun e => no b (by have := HGD.out.ne.2.2.2 b e; omega) hb⟩), HGD.out.ne, H4.out.2.2.2.2.trans (XK.below H4.out.2.2.2.2.size (fun b hb => by have := (H4.out.1.lt b hb).1; have := HGD.out.ne.2.1; omega))⟩)
                         clear XO XK XA hown' hgrow3 hat3)
                      | fail)
                    go_roundw
                    case rel => exact ⟨k + 1, m + 1, c', A', _, _, rfl, by go_num, by omega, HN, Lib.hid (.inl (by have := HMK.out; omega))⟩
                    case measure => simp [intOf]; omega
          · have t1 : ((l i : Int) != (i : Int)) = true := by simp; omega
            have HN := Lib.hid (HNX.out (fun hc => hlk hc.self))
            clear hlk
            go_wp2_with fail
            go_round
            case rel => exact ⟨i + 1, rfl, by go_num, by omega, HN⟩
            case measure => simp [intOf]; omega
        · obtain rfl : i = n := by omega
          have HNO : Hid (∀ x, ¬ Cand g l d x) := Lib.hid fun x hc => HNC.out x (by have := hc.lt; have := HGL.out; omega) hc
          go_wp2_with fail
          go_roundw
          case rel => exact ⟨k + 1, m, oc, OA, d, o, rfl, by go_num, by omega, HGD, Lib.hid (.inr HNO.out)⟩
          case measure => simp [intOf]; omega
    · obtain rfl : k = n := by omega
      have HNO : Hid (∀ x, ¬ Cand g l d x) := Lib.hid (HQ.out.elim (fun h => HGD.out.pk.full (by rw [HGD.out.len, h, HGL.out])) id)
      go_wp2_with fail
      go_ret
      exact ⟨OA, m, oc, o, l, d, rfl, own_less HGD.out.own (by have := HGD.out.ne.2.1; omega), HL.out, HGD.out.pk, HNO.out, HGD.out.bw⟩
end Go.Proofs.Ytnfoahcdmaphnaa
