/-
  Graphs of programs, the document's: to which functions a function leads.
-/
import Derived.Test.YtjblfdnhmmlbfaaGs5
namespace Go.Proofs.Ytjblfdnhmmlbfaa
open Go.RowKit Go.Maps
set_option linter.unusedSimpArgs false
set_option linter.unusedVariables false
def hitI (ka kb : Int) (C : List DInstr) (g : Nat) : Bool := C.any fun x => (x.op == ka || x.op == kb) && x.a == (g : Int)
theorem hitI_next {ka kb : Int} {C : List DInstr} {k g : Nat} {x : DInstr} (hx : C[k]? = some x) : hitI ka kb (C.take (k + 1)) g = (hitI ka kb (C.take k) g || ((x.op == ka || x.op == kb) && x.a == (g : Int))) := by
  unfold hitI
  rw [List.take_add_one, hx, List.any_append]
  simp
theorem leads_hit {ka kb : Int} {codes : List (List DInstr)} {i : Nat} {C : List DInstr} (hC : codes[i]? = some C) (g : Nat) : leadsB codes (i : Int) [ka, kb] g = hitI ka kb C g := by
  unfold leadsB hitI
  simp only [hC, Option.getD_some, Int.toNat_natCast, List.contains_cons, List.contains_nil, Bool.or_false]
/-- Of the first k functions. -/
def toU (codes : List (List DInstr)) (i : Nat) (ka kb : Int) (k : Nat) : List Int := ((List.range k).filter (leadsB codes (i : Int) [ka, kb])).map fun g : Nat => (g : Int)
theorem toU_all (codes : List (List DInstr)) (i : Nat) (ka kb : Int) : toU codes i ka kb codes.length = toM codes (i : Int) [ka, kb] := by
  unfold toU toM
  rw [if_pos (by omega)]
theorem toU_yes {codes : List (List DInstr)} {i : Nat} {ka kb : Int} {k : Nat} (h : leadsB codes (i : Int) [ka, kb] k = true) : toU codes i ka kb k ++ [(k : Int)] = toU codes i ka kb (k + 1) := by
  unfold toU
  rw [List.range_succ, List.filter_append, List.map_append]
  simp [h]
theorem toU_no {codes : List (List DInstr)} {i : Nat} {ka kb : Int} {k : Nat} (h : leadsB codes (i : Int) [ka, kb] k = false) : toU codes i ka kb k = toU codes i ka kb (k + 1) := by
  unfold toU
  rw [List.range_succ, List.filter_append, List.map_append]
  simp [h]
theorem toU_len (codes : List (List DInstr)) (i : Nat) (ka kb : Int) (k : Nat) : (toU codes i ka kb k).length ≤ k := by
  unfold toU
  rw [List.length_map]
  exact Nat.le_trans (List.length_filter_le _ _) (by simp)
set_option maxRecDepth 100000 in
set_option maxHeartbeats 8000000 in
theorem to_any (B : Nat) (FA : Option Addr) (fn fc : Nat) (codes : List (List DInstr)) (f ka kb : Int) (w : World) (h : PgW w B FA fn fc codes) (hB : B ≤ w.heap.size) (hfn : fn ≤ 50) (hS : ∀ C ∈ codes, C.length ≤ 150) :
    Calls Try.prog 11 #[.agg #[.slice FA fn fc], .int .i64 f, .int .i64 ka, .int .i64 kb] w (IsRow2 (toM codes f [ka, kb]) w) := by
  obtain ⟨i0, hi, hz0, hz1, hz2⟩ := info_parts info_int
  have HL : Hid (codes.length = fn) := Lib.hid h.1
  obtain ⟨w1, hw1⟩ : ∃ X, w.alloc (.cells #[.slice FA fn fc] 24) = X := ⟨_, rfl⟩
  obtain ⟨g, hg⟩ : ∃ g, w.heap.size = g := ⟨_, rfl⟩
  have hb1 : Below g w w1 := by rw [← hw1, ← hg]; exact bl_one _
  have EQ : Hid (∀ W, Below w1.heap.size w1 W → W.cell? ⟨g, 0, none⟩ = some (.slice FA fn fc)) := Lib.hid fun W hW => (hW.cell (p := ⟨g, 0, none⟩) (by rw [← hw1]; simp; omega)).trans (by rw [← hw1, ← hg]; exact (Cells.new w [.slice FA fn fc] _).at_ 0 _ rfl)
  have HBW : Hid (∀ W, Below w1.heap.size w1 W → Below g w W ∧ g ≤ W.heap.size) := Lib.hid fun W hW => by
    have h1 := hb1.size
    have h2 : Below g w W := hb1.trans (hW.mono (by omega))
    exact ⟨h2, by have := h2.size; omega⟩
  have HP : Hid (∀ W, Below g w W → PgW W B FA fn fc codes) := Lib.hid fun W hW => h.keep (hW.mono (by omega))
  have hgE : Hid (w.heap.size = g ∧ B ≤ g) := Lib.hid ⟨hg, by omega⟩
  have hfb : (fn : Int) ≤ 50 := by omega
  have HSM := Lib.hid hS
  have q0 := EQ.out w1 (Below.refl _ _)
  clear h hB hb1 hS
  by_cases hf : 0 ≤ f ∧ f < (fn : Int)
  · have cI := fun W => Lib.hid (ris_any FA fn fc f true (by rw [eq_comm, decide_eq_true_eq]; exact hf) W)
    obtain ⟨hf0, hf1⟩ := hf
    obtain ⟨i, rfl⟩ : ∃ i : Nat, f = (i : Int) := ⟨f.toNat, by omega⟩
    have hifn : i < fn := by omega
    go_enter Try.func11, Try.ntmps11
    go_wp2_with fail
    clear hw1 hg q0
    go_loopw [9, 10] (fun rv gv wr => ∃ (j : Nat) (A2 : Option Addr) (m c2 : Nat), rv = .slice A2 m c2 ∧ gv = .int .i64 j ∧ j ≤ fn ∧ m ≤ j ∧ Hid (wr.ownsRow w1.heap.size 3 1 (.slice A2 m c2) m (rowI (toU codes i ka kb j)) ∧ Below w1.heap.size w1 wr)) (fun _ gv _ => fn - (intOf gv).toNat)
    case atStart => exact ⟨0, none, 0, 0, rfl, rfl, Nat.zero_le _, Nat.le_refl _, Lib.hid ⟨⟨rfl, .inl ⟨rfl, rfl⟩⟩, Below.refl _ _⟩⟩
    case round =>
      obtain ⟨j, A2, m, c2, rfl, rfl, hj, hm, HK⟩ := hrel
      have q0 := EQ.out wr HK.out.2
      have hj0 : (0 : Int) ≤ (j : Int) := by omega
      by_cases hjl : j < fn
      · have hjn : (j : Int) < (fn : Int) := by omega
        go_wp2_with fail
        refine (cI _).out.mono ?_
        rintro e w3 ⟨rfl, hb3⟩
        have HBZ0 : Hid (w1.heap.size ≤ wr.heap.size) := Lib.hid HK.out.2.size
        have HR3 : Hid (w3.ownsRow w1.heap.size 3 1 (.slice A2 m c2) m (rowI (toU codes i ka kb j)) ∧ Below w1.heap.size w1 w3) := Lib.hid ⟨own_keep HK.out.1 hb3, HK.out.2.trans (hb3.mono HBZ0.out)⟩
        clear hb3 q0 HK
        go_wp2_with fail
        go_loopw [11, 12] (fun fv kv wr => ∃ (k : Nat) (fd : Bool), fv = .bool fd ∧ kv = .int .i64 k ∧ k ≤ 150 ∧ Hid (wr.ownsRow w1.heap.size 3 1 (.slice A2 m c2) m (rowI (toU codes i ka kb j)) ∧ Below w1.heap.size w1 wr ∧ ∀ C, codes[i]? = some C → k ≤ C.length ∧ hitI ka kb (C.take k) j = fd)) (fun _ kv _ => 151 - (intOf kv).toNat)
        case atStart => exact ⟨0, false, rfl, rfl, Nat.zero_le _, Lib.hid ⟨HR3.out.1, HR3.out.2, fun C hC => ⟨Nat.zero_le _, by simp [hitI]⟩⟩⟩
        case round =>
          clear HR3
          obtain ⟨k, fd, rfl, rfl, hk, HK⟩ := hrel
          have hk0 : (0 : Int) ≤ (k : Int) := by omega
          have q0 := EQ.out wr HK.out.2.1
          obtain ⟨b, off, Ac, nc, cc, C, rfl, hbB, hC, hcell, hsl⟩ := (HP.out wr (HBW.out wr HK.out.2.1).1).at_ hifn
          have HC := Lib.hid hC
          have hcl : C.length = nc := hsl.1
          have hnc : nc ≤ 150 := by have := HSM.out C (List.mem_of_getElem? hC); omega
          have HKC := Lib.hid (HK.out.2.2 C hC)
          have hi0 : (0 : Int) ≤ (i : Int) := by omega
          have hin : (i : Int) < (fn : Int) := by omega
          have HBZ : Hid (w1.heap.size ≤ wr.heap.size) := Lib.hid HK.out.2.1.size
          by_cases hkl : k < nc
          · have hkn : (k : Int) < (nc : Int) := by omega
            obtain ⟨b2, off2, x, rfl, hb2B, hx, hx0, hx1⟩ := code_at hsl hkl
            have HIT : Hid (hitI ka kb (C.take (k + 1)) j = (fd || ((x.op == ka || x.op == kb) && (x.a == (j : Int))))) := Lib.hid (by rw [hitI_next hx, HKC.out.2])
            obtain ⟨sb, hsb⟩ : ∃ sb, wr.heap.size = sb := ⟨_, rfl⟩
            obtain ⟨xo, xa⟩ := x
            dsimp only at hx0 hx1 HIT
            have HNX : Hid (∀ fd', hitI ka kb (C.take (k + 1)) j = fd' → ∀ W, Below wr.heap.size wr W → Hid (W.ownsRow w1.heap.size 3 1 (.slice A2 m c2) m (rowI (toU codes i ka kb j)) ∧ Below w1.heap.size w1 W ∧ ∀ C, codes[i]? = some C → k + 1 ≤ C.length ∧ hitI ka kb (C.take (k + 1)) j = fd')) := Lib.hid fun fd' hfd W hW => Lib.hid ⟨own_keep HK.out.1 hW, HK.out.2.1.trans (hW.mono HBZ.out), fun C' hC' => by
              rw [HC.out] at hC'
              injection hC' with hC'
              subst hC'
              exact ⟨by omega, hfd⟩⟩
            have HBN : Hid (Below wr.heap.size wr (wr.alloc (.cells #[.int .i64 xo, .int .i64 xa] 53))) := Lib.hid (bl_one _)
            clear hx hC hsl hbB hb2B hsb
            cases fd with
            | true =>
              go_wp2_with fail
              go_roundw
              case rel => exact ⟨k + 1, true, rfl, by go_num, by omega, HNX.out true (by rw [HIT.out]; rfl) _ (by first | exact HBN.out | exact HBN.out.drew)⟩
              case measure => simp [intOf]; omega
            | false =>
              by_cases ho : xo = ka
              · have t1 : (xo == ka) = true := by simp [ho]
                clear ho
                go_wp2_with fail
                go_roundw
                case rel => exact ⟨k + 1, (xa == (j : Int)), rfl, by go_num, by omega, HNX.out _ (by rw [HIT.out, t1]; simp) _ (by first | exact HBN.out | exact HBN.out.drew)⟩
                case measure => simp [intOf]; omega
              · have t1 : (xo == ka) = false := by simpa using ho
                by_cases ho2 : xo = kb
                · have t2 : (xo == kb) = true := by simp [ho2]
                  clear ho ho2
                  go_wp2_with fail
                  go_roundw
                  case rel => exact ⟨k + 1, (xa == (j : Int)), rfl, by go_num, by omega, HNX.out _ (by rw [HIT.out, t1, t2]; simp) _ (by first | exact HBN.out | exact HBN.out.drew)⟩
                  case measure => simp [intOf]; omega
                · have t2 : (xo == kb) = false := by simpa using ho2
                  clear ho ho2
                  go_wp2_with fail
                  go_roundw
                  case rel => exact ⟨k + 1, false, rfl, by go_num, by omega, HNX.out _ (by rw [HIT.out, t1, t2]; simp) _ (by first | exact HBN.out | exact HBN.out.drew)⟩
                  case measure => simp [intOf]; omega
          · have hke : k = nc := by have := HKC.out.1; omega
            subst hke
            have HLD : Hid (leadsB codes (i : Int) [ka, kb] j = fd) := Lib.hid (by rw [leads_hit hC, ← HKC.out.2, List.take_of_length_le (by omega)])
            have hsrc := Lib.hid (src_int wr (j : Int))
            have HO := Lib.hid HK.out.1
            have HB := Lib.hid HK.out.2.1
            clear HK hsl hC hbB HKC hcl
            cases fd with
            | false =>
              have HE := Lib.hid (toU_no HLD.out)
              go_wp2_with fail
              go_roundw
              case rel => exact ⟨j + 1, A2, m, c2, rfl, by go_num, by omega, by omega, Lib.hid ⟨by rw [← HE.out]; exact HO.out, HB.out⟩⟩
              case measure => simp [intOf]; omega
            | true =>
              have HE := Lib.hid (toU_yes HLD.out)
              go_wp2_with (first
                | (at_builtin; go_must (refine wpList_append_src _ rfl _ _ 30 rfl w1.heap.size 3 i0 (.int .i64 0) 1 8 Try.underlying30 hi hz0 hz1 hz2 rfl (by decide) _ _ _ rfl (HO.out.alloc _) (some ⟨wr.heap.size, 0, none⟩) 1 1 [.int .i64 (j : Int)] rfl hsrc.out (one_int (j : Int)) (by unfold maxLen; omega) (by omega) (by have := HBZ.out; simp; omega) ?_)
                   intro v' w4 hown' hgrow3 hat3
                   obtain ⟨A', c', rfl, X1, X2, _⟩ := app_int HB.out HBZ.out HO.out hown' hgrow3
                   rw [HE.out] at X1
                   have XR := Lib.hid X1
                   have XB := Lib.hid X2
                   clear X1 X2 hown' hgrow3 hat3)
                | fail)
              go_roundw
              case rel => exact ⟨j + 1, A', m + 1, c', rfl, by go_num, by omega, by omega, Lib.hid ⟨XR.out, XB.out⟩⟩
              case measure => simp [intOf]; omega
      · obtain rfl : j = fn := by omega
        go_wp2_with fail
        go_ret
        exact ⟨A2, m, c2, rfl, by omega, by rw [← toU_all, HL.out, hgE.out.1]; exact own_less HK.out.1 (by have := (HBW.out w1 (Below.refl _ _)).2; omega), by rw [hgE.out.1]; exact (HBW.out wr HK.out.2).1⟩
  · have cI := fun W => Lib.hid (ris_any FA fn fc f false (by rw [eq_comm, decide_eq_false_iff_not]; exact hf) W)
    have HE : Hid (toM codes f [ka, kb] = []) := Lib.hid (toM_none (by rw [HL.out]; exact hf))
    clear hf
    go_enter Try.func11, Try.ntmps11
    go_wp2_with fail
    clear hw1 hg q0
    go_loopw [9, 10] (fun rv gv wr => rv = .slice none 0 0 ∧ gv = .int .i64 0 ∧ Hid (Below w1.heap.size w1 wr)) (fun _ gv _ => 1)
    case atStart => exact ⟨rfl, rfl, Lib.hid (Below.refl _ _)⟩
    case round =>
      obtain ⟨rfl, rfl, HK⟩ := hrel
      have q0 := EQ.out wr HK.out
      by_cases h0 : 0 < fn
      · have h01 : (0 : Int) < (fn : Int) := by omega
        go_wp2_with fail
        refine (cI _).out.mono ?_
        rintro e w3 ⟨rfl, hb3⟩
        have HK3 : Hid (Below w1.heap.size w1 w3) := Lib.hid (HK.out.trans (hb3.mono HK.out.size))
        clear hb3
        go_wp2_with fail
        go_ret
        exact ⟨none, 0, 0, rfl, by omega, by rw [HE.out]; exact ⟨rfl, .inl ⟨rfl, rfl⟩⟩, by rw [hgE.out.1]; exact (HBW.out w3 HK3.out).1⟩
      · have h01 : ¬ (0 : Int) < (fn : Int) := by omega
        go_wp2_with fail
        go_ret
        exact ⟨none, 0, 0, rfl, by omega, by rw [HE.out]; exact ⟨rfl, .inl ⟨rfl, rfl⟩⟩, by rw [hgE.out.1]; exact (HBW.out wr HK.out).1⟩
end Go.Proofs.Ytjblfdnhmmlbfaa
