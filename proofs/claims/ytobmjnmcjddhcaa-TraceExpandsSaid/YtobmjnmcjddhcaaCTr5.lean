/-
  Tracebacks: TraceEach's walk.
-/
import Derived.Test.YtobmjnmcjddhcaaCTr4
import Derived.Test.YtobmjnmcjddhcaaCGs9
namespace Go.Proofs.Ytobmjnmcjddhcaa
open Go.RowKit
set_option linter.unusedSimpArgs false
set_option linter.unusedVariables false
theorem upM_nil (k : Nat) (n : Int) : upM [] k n = [] := by
  cases k with
  | zero => rfl
  | succ k => rw [upM, if_neg (by intro h; have := h.2; simp at this; omega)]
structure ExpF (x : DFunc) (f : Int) (j : Nat) : Prop where
  len : (expM x f j).length = max (upM x.nodes (x.nodes.length + 1) (ndM x j)).length 1
  first : ∃ u, (expM x f j)[0]? = some (u, x.lines.getD j 0)
  last : ∃ v, (expM x f j)[(expM x f j).length - 1]? = some (f, v)
theorem exp_facts (x : DFunc) (f : Int) (j : Nat) (hc : canOk x) (hj : j < x.code.length) (hr : bareF x = false → (x.nodes.getD 0 zN).fn = f) : ExpF x f j := by
  rcases hc.tab with ⟨e, _, _⟩ | ⟨hno, hat, hlv, hin⟩
  · have he : expM x f j = [(f, x.lines.getD j 0)] := by unfold expM; rw [if_pos (by rw [e]; rfl)]
    exact ⟨by rw [he, e, upM_nil]; rfl, by rw [he]; exact ⟨f, rfl⟩, by rw [he]; exact ⟨_, rfl⟩⟩
  · have h1 := hno.1
    have hn : ndM x j = x.at_.getD j 0 := by unfold ndM; rw [if_neg (by omega)]
    obtain ⟨u, hu⟩ : ∃ u, x.at_[j]? = some u := ⟨_, List.getElem?_eq_getElem (by omega)⟩
    have hu' : ndM x j = u := by rw [hn, List.getD_eq_getElem?_getD, hu]; rfl
    obtain ⟨u0, u1⟩ := hin u (List.mem_of_getElem? hu)
    obtain ⟨q, rfl⟩ := Int.eq_ofNat_of_zero_le u0
    have hq : q < x.nodes.length := by omega
    have hs := upM_same x.nodes hno q hq
    have hl := upM_last x.nodes hno q x.nodes.length hq hq
    obtain ⟨ys, hys⟩ := List.getLast?_eq_some_iff.1 hl
    have he : expM x f j = entM x.nodes (x.lines.getD j 0) (upM x.nodes x.nodes.length (q : Int)) := by unfold expM; rw [if_neg (by omega), hu']
    have h0 : fnAt x.nodes 0 = f := by
      unfold fnAt
      exact hr (by unfold bareF; rw [decide_eq_false_iff_not]; omega)
    refine ⟨?_, ?_, ?_⟩
    · rw [he, entM_len, hu', ← hs, hys]
      simp
    · rw [he]
      have : upM x.nodes x.nodes.length (q : Int) ≠ [] := by rw [hys]; simp
      cases hup : upM x.nodes x.nodes.length (q : Int) with
      | nil => exact absurd hup this
      | cons a l => exact ⟨fnAt x.nodes a, rfl⟩
    · rw [he, hys, entM_snoc, h0]
      simp
theorem fine_get {w : World} {FA : Option Addr} {fn fc : Nat} {fs : List DFunc} (h : PgO w FA fn fc fs) (hf : FineM fs) : PgC w FA fn fc fs := ⟨h, hf.can⟩
set_option maxRecDepth 100000 in
set_option maxHeartbeats 64000000 in
theorem traceEach_walk (cs0 : Array Value) (x0 : DProgram) (f : Int) (w : World) (h0 : RProgram w w.heap.size cs0.toList x0) (_ : (Lit.int .i64 f).wf = true) :
    Calls Try.prog 4 #[.agg cs0, .int .i64 f] w fun e w' => e = .returned (.bool true) ∧ Below w.heap.size w w' := by
  obtain ⟨FA, fn, fc, e0, hfs⟩ := h0
  obtain rfl : cs0 = #[.slice FA fn fc] := by rw [← Array.toArray_toList (xs := cs0), e0]
  obtain ⟨fs⟩ := x0
  dsimp only at hfs
  have cl := Lib.hid trace_lives
  obtain ⟨w1, hw1⟩ : ∃ X, w.alloc (.cells #[.slice FA fn fc] 24) = X := ⟨_, rfl⟩
  obtain ⟨g, hg⟩ : ∃ g, w.heap.size = g := ⟨_, rfl⟩
  have hb1 : Below w.heap.size w w1 := by rw [← hw1]; exact bl_one _
  have hc1 : Cells w1 g [.slice FA fn fc] := by rw [← hw1, ← hg]; exact Cells.new w [.slice FA fn fc] _
  have EP : Hid (∀ W, Below w1.heap.size w1 W → W.cell? ⟨g, 0, none⟩ = some (.slice FA fn fc)) := Lib.hid fun W hW => (hc1.on hW).at_ 0 _ rfl
  have HB1 := Lib.hid hb1
  have HBW : Hid (∀ W, Below w1.heap.size w1 W → Below w.heap.size w W) := Lib.hid fun W hW => hb1.trans (hW.mono hb1.size)
  have HFS : Hid (∀ W, Below w1.heap.size w1 W → SlR 11 240 RFunc W w.heap.size FA fn fc fs) := Lib.hid fun W hW => SlR.keep stable_Func hfs fun p hp => (hb1.trans (hW.mono hb1.size)).cell hp
  have cSm := Lib.hid (small16_any w.heap.size FA fn fc fs w1 (HFS.out w1 (Below.refl _ _)) hb1.size)
  have HLN : Hid (fs.length = fn) := Lib.hid hfs.1
  have p0 := EP.out w1 (Below.refl _ _)
  clear hb1 hc1 hfs e0
  go_enter Try.func4, Try.ntmps4
  go_wp2_with fail
  refine cSm.out.mono ?_
  rintro e w2 ⟨r, rfl, hr, hb2⟩
  have HR := Lib.hid hr
  have HB2 := Lib.hid hb2
  clear hr hb2 cSm p0
  cases r with
  | false =>
    go_wp2_with fail
    refine (cl.out _).mono ?_
    rintro e w9 ⟨rfl, hb9⟩
    have HB9 : Hid (Below w.heap.size w w9) := Lib.hid (HBW.out _ (HB2.out.trans (hb9.mono HB2.out.size)))
    clear hb9
    go_wp2_with fail
    go_ret
    exact ⟨rfl, HB9.out⟩
  | true =>
    obtain ⟨hfn0, hsm⟩ := HR.out rfl
    have hfn : fn ≤ 50 := by have := HLN.out; omega
    have HPO : Hid (∀ W, Below w1.heap.size w1 W → PgO W FA fn fc fs) := Lib.hid fun W hW => ⟨⟨w.heap.size, by have := (HBW.out W hW).size; omega, HFS.out W hW⟩, hsm, hfn⟩
    have p2 := EP.out w2 HB2.out
    have cF := Lib.hid (rfine_any FA fn fc fs w2 (HPO.out w2 HB2.out))
    clear hsm HR hfn0
    go_wp2_with fail
    refine cF.out.mono ?_
    rintro e w3 ⟨r, rfl, hr, hb3⟩
    have HR := Lib.hid hr
    have HB3 : Hid (Below w1.heap.size w1 w3) := Lib.hid (HB2.out.trans (hb3.mono HB2.out.size))
    clear hr hb3 cF p2
    cases r with
    | false =>
      go_wp2_with fail
      refine (cl.out _).mono ?_
      rintro e w9 ⟨rfl, hb9⟩
      have HB9 : Hid (Below w.heap.size w w9) := Lib.hid (HBW.out _ (HB3.out.trans (hb9.mono HB3.out.size)))
      clear hb9
      go_wp2_with fail
      go_ret
      exact ⟨rfl, HB9.out⟩
    | true =>
      have HFM := Lib.hid (HR.out rfl)
      have p3 := EP.out w3 HB3.out
      by_cases hf0 : f < 0
      · have t0 : decide (f < 0) = true := by rw [decide_eq_true_eq]; exact hf0
        go_wp2_with fail
        refine (cl.out _).mono ?_
        rintro e w9 ⟨rfl, hb9⟩
        have HB9 : Hid (Below w.heap.size w w9) := Lib.hid (HBW.out _ (HB3.out.trans (hb9.mono HB3.out.size)))
        clear hb9
        go_wp2_with fail
        go_ret
        exact ⟨rfl, HB9.out⟩
      · have t0 : decide (f < 0) = false := by rw [decide_eq_false_iff_not]; exact hf0
        obtain ⟨f, rfl⟩ := Int.eq_ofNat_of_zero_le (show 0 ≤ f by omega)
        have t0b : decide (f < 0) = false := by rw [decide_eq_false_iff_not]; omega
        have hfz : (0 : Int) ≤ (f : Int) := by omega
        by_cases hi : f < fn
        · have t1 : decide ((f : Int) ≥ (fn : Int)) = false := by rw [decide_eq_false_iff_not]; omega
          have t1b : decide (fn ≤ f) = false := by rw [decide_eq_false_iff_not]; omega
          have hf1 : (f : Int) < (fn : Int) := by omega
          obtain ⟨bk, off, s, b, A0, n0, c0, A1, n1, c1, A2, n2, c2, A3, n3, c3, A4, n4, c4, A5, n5, c5, A6, n6, c6, A7, n7, c7, A8, n8, c8, x, rfl, hbk, hx, hcf, hfw, hcan⟩ := (fine_get (HPO.out w3 HB3.out) HFM.out).get hi
          have y0 := hcf 0 _ rfl
          have y1 := hcf 1 _ rfl
          have y2 := hcf 2 _ rfl
          have y3 := hcf 3 _ rfl
          have y4 := hcf 4 _ rfl
          have y5 := hcf 5 _ rfl
          have y6 := hcf 6 _ rfl
          have y7 := hcf 7 _ rfl
          have y8 := hcf 8 _ rfl
          have y9 := hcf 9 _ rfl
          have y10 := hcf 10 _ rfl
          simp only [Nat.add_zero] at y0
          have l4 := hfw.r4.1
          have l6 := hfw.r6.1
          have HEF : Hid (∀ j, j < n4 → ExpF x (f : Int) j) := Lib.hid fun j hj => exp_facts x (f : Int) j hcan (by omega) fun hb => HFM.out.root f x hx hb
          obtain ⟨s4, s5, s6, s7, s8, s0⟩ := hfw.sm
          have HL6 : Hid (x.nodes.length = n6 ∧ x.lines.length = n5 ∧ n5 = n4) := Lib.hid ⟨l6, hfw.r5.1, by have := hcan.lines; have := hfw.r5.1; omega⟩
          have hn40 : (n4 : Int) ≤ 150 := by omega
          have HFW := Lib.hid hfw
          have HCAN := Lib.hid hcan
          have HCF : Hid (∀ W, Below w3.heap.size w3 W → ∀ (j : Nat) (u : Value), [.string s, .bool b, .slice A0 n0 c0, .slice A1 n1 c1, .slice A2 n2 c2, .slice A3 n3 c3, .slice A4 n4 c4, .slice A5 n5 c5, .slice A6 n6 c6, .slice A7 n7 c7, .slice A8 n8 c8][j]? = some u → W.cell? ⟨bk, off + f * 11 + j, none⟩ = some u) := Lib.hid fun W hW j u hu => (hW.cell (p := ⟨bk, off + f * 11 + j, none⟩) hbk).trans (hcf j u hu)
          have HBK := Lib.hid hbk
          clear hcf hfw hcan hx l4 l6 hbk HR
          go_upto_region 4 with fail
          clear y0 y1 y2 y3 y4 y5 y6 y7 y8 y9 y10 p3 t0 t0b t1 t1b
          obtain ⟨w4, hwX⟩ : ∃ X, World.alloc w3 (.cells #[.string s, .bool b, .slice A0 n0 c0, .slice A1 n1 c1, .slice A2 n2 c2, .slice A3 n3 c3, .slice A4 n4 c4, .slice A5 n5 c5, .slice A6 n6 c6, .slice A7 n7 c7, .slice A8 n8 c8] 42) = X := ⟨_, rfl⟩
          obtain ⟨g4, hgX⟩ : ∃ X, (World.heap w3).size = X := ⟨_, rfl⟩
          have hb4 : Below (World.heap w3).size w3 w4 := by rw [← hwX]; exact bl_one _
          have hc4 : Cells w4 g4 [.string s, .bool b, .slice A0 n0 c0, .slice A1 n1 c1, .slice A2 n2 c2, .slice A3 n3 c3, .slice A4 n4 c4, .slice A5 n5 c5, .slice A6 n6 c6, .slice A7 n7 c7, .slice A8 n8 c8] := by rw [← hwX, ← hgX]; exact Cells.new w3 [.string s, .bool b, .slice A0 n0 c0, .slice A1 n1 c1, .slice A2 n2 c2, .slice A3 n3 c3, .slice A4 n4 c4, .slice A5 n5 c5, .slice A6 n6 c6, .slice A7 n7 c7, .slice A8 n8 c8] _
          rw [hwX, hgX]
          clear hwX hgX
          have HCT : Hid (∀ W, Below w4.heap.size w4 W → Cells W g4 [.string s, .bool b, .slice A0 n0 c0, .slice A1 n1 c1, .slice A2 n2 c2, .slice A3 n3 c3, .slice A4 n4 c4, .slice A5 n5 c5, .slice A6 n6 c6, .slice A7 n7 c7, .slice A8 n8 c8]) := Lib.hid fun W hW => hc4.on hW
          have H34 : Hid (∀ W, Below w4.heap.size w4 W → Below w3.heap.size w3 W) := Lib.hid fun W hW => hb4.trans (hW.mono hb4.size)
          have H14 : Hid (∀ W, Below w4.heap.size w4 W → Below w1.heap.size w1 W) := Lib.hid fun W hW => HB3.out.trans ((H34.out W hW).mono HB3.out.size)
          have HFIN : Hid (∀ W, Below w4.heap.size w4 W → Below w.heap.size w W) := Lib.hid fun W hW => HBW.out W (H14.out W hW)
          have HF4 : Hid (∀ W, Below w4.heap.size w4 W → FnW W W.heap.size s b A0 n0 c0 A1 n1 c1 A2 n2 c2 A3 n3 c3 A4 n4 c4 A5 n5 c5 A6 n6 c6 A7 n7 c7 A8 n8 c8 x) := Lib.hid fun W hW => (HFW.out.keep (H34.out W hW)).more (H34.out W hW).size
          clear hb4 hc4 hw1 hg
          go_wp2_with fail
          go_loopw [6] (fun iv wr => ∃ (j : Nat), iv = .int .i64 (j : Int) ∧ j ≤ n4 ∧ Hid (Below w4.heap.size w4 wr)) (fun iv _ => n4 - (intOf iv).toNat)
          case atStart => exact ⟨0, rfl, Nat.zero_le _, Lib.hid (Below.refl _ _)⟩
          case round =>
            obtain ⟨j, rfl, hj, HB⟩ := hrel
            have hj0 : (0 : Int) ≤ (j : Int) := by omega
            have e6 := (HCT.out wr HB.out).at_ 6 _ rfl
            by_cases hlt : j < n4
            · have hjn : (j : Int) < (n4 : Int) := by omega
              have pr := EP.out wr (H14.out wr HB.out)
              have cE := Lib.hid (expand_in s b A0 n0 c0 A1 n1 c1 A2 n2 c2 A3 n3 c3 A4 n4 c4 A5 n5 c5 A6 n6 c6 A7 n7 c7 A8 n8 c8 x bk off fn fc f j wr (by have := HBK.out; have := (H34.out wr HB.out).size; omega) (HCF.out wr (H34.out wr HB.out)) (HF4.out wr HB.out) HCAN.out hi hfn hlt)
              have HEX := Lib.hid (HEF.out j hlt)
              obtain ⟨l, hl⟩ : ∃ l, expM x (f : Int) j = l := ⟨_, rfl⟩
              have HLL := Lib.hid hl
              rw [hl] at cE
              clear hl
              go_wp2_with fail
              refine cE.out.mono ?_
              rintro e w5 ⟨A, k, c, rfl, hk, hown, hb5⟩
              have HOW := Lib.hid hown
              have HKL := Lib.hid hk
              have HB5 : Hid (Below w4.heap.size w4 w5) := Lib.hid (HB.out.trans (hb5.mono HB.out.size))
              have hfirst := HEX.out.first
              have hlast := HEX.out.last
              have hlen := HEX.out.len
              rw [HLL.out] at hfirst hlast hlen
              have hk1 : 1 ≤ k := by rw [hk, hlen]; exact Nat.le_max_right _ _
              have hup := upM_len x.nodes (x.nodes.length + 1) (ndM x j)
              have hk21 : k ≤ 21 := by have := HL6.out.1; rw [hk, hlen]; omega
              obtain ⟨k', rfl⟩ : ∃ k', k = k' + 1 := ⟨k - 1, by omega⟩
              obtain ⟨eb, eo, e1, rfl, heb, he1, ca0, ca1⟩ := ent_at hown (by omega) (j := 0) (by omega)
              obtain ⟨eb', eo', e2, hA2, heb', he2, cb0, cb1⟩ := ent_at hown (by omega) (j := k') (by omega)
              injection hA2 with hA2
              injection hA2 with q1 q2
              subst q1
              subst q2
              obtain ⟨u1, hu1⟩ := hfirst
              obtain ⟨u2, hu2⟩ := hlast
              rw [he1] at hu1
              injection hu1 with hu1
              subst hu1
              rw [← hk, Nat.add_sub_cancel, he2] at hu2
              injection hu2 with hu2
              subst hu2
              simp only [Nat.zero_mul, Nat.add_zero] at ca0 ca1
              have HUPL : Hid (max (upM x.nodes (n6 + 1) (ndM x j)).length 1 = k' + 1) := Lib.hid (by rw [← HL6.out.1, ← hlen, ← hk])
              have HCA : Hid (∀ W, Below w5.heap.size w5 W → W.cell? ⟨eb, eo + 1, none⟩ = some (.int .i64 (x.lines.getD j 0)) ∧ W.cell? ⟨eb, eo + k' * 2, none⟩ = some (.int .i64 (f : Int))) := Lib.hid fun W hW => ⟨(hW.cell (p := ⟨eb, eo + 1, none⟩) heb).trans ca1, (hW.cell (p := ⟨eb, eo + k' * 2, none⟩) heb).trans cb0⟩
              obtain ⟨lb, lo, li, hA5, hlb, hli, lc⟩ := SlR.cell1 (f := Value.int .i64) (HF4.out w5 HB5.out).r5 (i := j) (by have := HL6.out.2.2; omega)
              have HLI : Hid (x.lines.getD j 0 = li) := Lib.hid (by rw [List.getD_eq_getElem?_getD, hli]; rfl)
              rw [HLI.out] at HCA
              subst hA5
              have HLC := Lib.hid lc
              have hj5 : j < n5 := by have := HL6.out.2.2; omega
              have hj5i : (j : Int) < (n5 : Int) := by omega
              clear hb5 hown cE e6 pr hk hlen hup hk1 ca0 ca1 cb0 cb1 he1 he2 hli lc heb heb' HEX HLL
              go_wp2_with fail
              obtain ⟨nd, hnd⟩ : ∃ v, ndM x j = v := ⟨_, rfl⟩
              rw [hnd] at HUPL
              obtain ⟨up, hup⟩ : ∃ l, upM x.nodes (n6 + 1) nd = l := ⟨_, rfl⟩
              rw [hup] at HUPL
              have cN : Hid (∀ W, Below w5.heap.size w5 W → Calls Try.prog 14 #[.agg #[.string s, .bool b, .slice A0 n0 c0, .slice A1 n1 c1, .slice A2 n2 c2, .slice A3 n3 c3, .slice A4 n4 c4, .slice (some ⟨lb, lo, none⟩) n5 c5, .slice A6 n6 c6, .slice A7 n7 c7, .slice A8 n8 c8], .int .i64 (j : Int)] W fun e w' => e = .returned (.int .i64 nd) ∧ Below W.heap.size W w') := Lib.hid fun W hW => by rw [← hnd]; exact rnode_any s b A0 n0 c0 A1 n1 c1 A2 n2 c2 A3 n3 c3 A4 n4 c4 (some ⟨lb, lo, none⟩) n5 c5 A6 n6 c6 A7 n7 c7 A8 n8 c8 x j W (HF4.out W (HB5.out.trans (hW.mono HB5.out.size))) (by omega)
              have cU : Hid (∀ W, Below w5.heap.size w5 W → Calls Try.prog 13 #[.slice A6 n6 c6, .int .i64 nd] W (IsRow up W)) := Lib.hid fun W hW => by rw [← hup]; exact rup_any A6 n6 c6 x.nodes nd W (HF4.out W (HB5.out.trans (hW.mono HB5.out.size))).r6 (by omega)
              clear hup hnd
              refine wp_region_held (S := fun W => Below w5.heap.size w5 W) (by kernel_rfl) ?_
              change wpAnyH _ _ _ _ _ _ _ _ (World.drew _)
              have hS0 : Below w5.heap.size w5 w5.drew := (Below.refl _ _).drew
              refine wpAnyH_tk (i := 0) rfl (by kernel_rfl) (by kernel_rfl) (by kernel_rfl) (by rfl) (by intro W hW; go_simp; first | done | exact rfl) (by intro _ _ _ h; exact h) hS0 ?_
              try go_simp
              refine wpAnyH_tk (i := 1) rfl (by kernel_rfl) (by kernel_rfl) (by kernel_rfl) (by rfl) (by intro W hW; have hW4 : Below w4.heap.size w4 W := HB5.out.trans (hW.mono HB5.out.size); have x9 := HCT.out W hW4; obtain ⟨e0, e1, e2, e3, e4, e5, e6, e7, e8, e9, e10⟩ : W.cell? ⟨g4, 0, none⟩ = some (.string s) ∧ W.cell? ⟨g4, 1, none⟩ = some (.bool b) ∧ W.cell? ⟨g4, 2, none⟩ = some (.slice A0 n0 c0) ∧ W.cell? ⟨g4, 3, none⟩ = some (.slice A1 n1 c1) ∧ W.cell? ⟨g4, 4, none⟩ = some (.slice A2 n2 c2) ∧ W.cell? ⟨g4, 5, none⟩ = some (.slice A3 n3 c3) ∧ W.cell? ⟨g4, 6, none⟩ = some (.slice A4 n4 c4) ∧ W.cell? ⟨g4, 7, none⟩ = some (.slice (some ⟨lb, lo, none⟩) n5 c5) ∧ W.cell? ⟨g4, 8, none⟩ = some (.slice A6 n6 c6) ∧ W.cell? ⟨g4, 9, none⟩ = some (.slice A7 n7 c7) ∧ W.cell? ⟨g4, 10, none⟩ = some (.slice A8 n8 c8) := ⟨x9.at_ 0 _ rfl, x9.at_ 1 _ rfl, x9.at_ 2 _ rfl, x9.at_ 3 _ rfl, x9.at_ 4 _ rfl, x9.at_ 5 _ rfl, x9.at_ 6 _ rfl, x9.at_ 7 _ rfl, x9.at_ 8 _ rfl, x9.at_ 9 _ rfl, x9.at_ 10 _ rfl⟩; go_simp; first | done | exact rfl) (by intro _ _ _ h; exact h) hS0 ?_
              try go_simp
              refine wpAnyH_tk (i := 2) rfl (by kernel_rfl) (by kernel_rfl) (by kernel_rfl) (by rfl) (by intro W hW; have hW4 : Below w4.heap.size w4 W := HB5.out.trans (hW.mono HB5.out.size); have x9 := HCT.out W hW4; obtain ⟨e0, e1, e2, e3, e4, e5, e6, e7, e8, e9, e10⟩ : W.cell? ⟨g4, 0, none⟩ = some (.string s) ∧ W.cell? ⟨g4, 1, none⟩ = some (.bool b) ∧ W.cell? ⟨g4, 2, none⟩ = some (.slice A0 n0 c0) ∧ W.cell? ⟨g4, 3, none⟩ = some (.slice A1 n1 c1) ∧ W.cell? ⟨g4, 4, none⟩ = some (.slice A2 n2 c2) ∧ W.cell? ⟨g4, 5, none⟩ = some (.slice A3 n3 c3) ∧ W.cell? ⟨g4, 6, none⟩ = some (.slice A4 n4 c4) ∧ W.cell? ⟨g4, 7, none⟩ = some (.slice (some ⟨lb, lo, none⟩) n5 c5) ∧ W.cell? ⟨g4, 8, none⟩ = some (.slice A6 n6 c6) ∧ W.cell? ⟨g4, 9, none⟩ = some (.slice A7 n7 c7) ∧ W.cell? ⟨g4, 10, none⟩ = some (.slice A8 n8 c8) := ⟨x9.at_ 0 _ rfl, x9.at_ 1 _ rfl, x9.at_ 2 _ rfl, x9.at_ 3 _ rfl, x9.at_ 4 _ rfl, x9.at_ 5 _ rfl, x9.at_ 6 _ rfl, x9.at_ 7 _ rfl, x9.at_ 8 _ rfl, x9.at_ 9 _ rfl, x9.at_ 10 _ rfl⟩; go_simp; first | done | exact rfl) (by intro _ _ _ h; exact h) hS0 ?_
              try go_simp
              refine wpAnyH_tk (i := 3) rfl (by kernel_rfl) (by kernel_rfl) (by kernel_rfl) (by rfl) (by intro W hW; go_simp; first | done | exact rfl) (by intro _ _ _ h; exact h) hS0 ?_
              try go_simp
              refine wpAnyH_one (i := 4) (by kernel_rfl) rfl (fun K hK => ?_)
              go_simp
              refine (cN.out _ hS0).mono ?_
              rintro e v1 ⟨rfl, hb2⟩
              have hS1 : Below w5.heap.size w5 v1 := hS0.trans (hb2.mono hS0.size)
              clear hb2
              go_simp
              refine hK _ _ ⟨hS1, ?_⟩; clear hK K
              try go_simp
              refine wpAnyH_one (i := 5) (by kernel_rfl) rfl (fun K hK => ?_)
              go_simp
              refine (cU.out _ hS1).mono ?_
              rintro e v2 ⟨U, m, cu, rfl, hou, hb2⟩
              have hS2 : Below w5.heap.size w5 v2 := hS1.trans (hb2.mono hS1.size)
              have HM : Hid (max m 1 = k' + 1) := Lib.hid (by rw [← HUPL.out, row_len hou])
              clear hb2 hou hS0 hS1
              go_simp
              refine hK _ _ ⟨hS2, ?_⟩; clear hK K
              try go_simp
              refine wpAnyH_tk (i := 6) rfl (by kernel_rfl) (by kernel_rfl) (by kernel_rfl) (by rfl) (by intro W hW; go_simp; first | done | exact rfl) (by intro _ _ _ h; exact h) hS2 ?_
              try go_simp
              refine wpAnyH_take (i := 7) (v := .int .i64 ((k' : Int) + 1)) rfl (by kernel_rfl) (by kernel_rfl) (by kernel_rfl) (fun _ _ _ h => h) (Or.inl ⟨by rfl, by intro W hW; go_simp; have := HM.out; first | omega | (split <;> omega)⟩) hS2 ?_
              try go_simp
              refine wpAnyH_one (i := 8) (by kernel_rfl) rfl (fun K hK => ?_)
              go_simp
              refine hK _ _ ⟨hS2, ?_⟩; clear hK K
              try go_simp
              refine wpAnyH_done (by kernel_rfl) ?_ _
              try go_simp
              obtain ⟨ca1, cb0⟩ := HCA.out v2 hS2
              have hB6 : Below w4.heap.size w4 v2 := HB5.out.trans (hS2.mono HB5.out.size)
              have lc := (hS2.cell (p := ⟨lb, lo + j, none⟩) hlb).trans HLC.out
              have e7 := (HCT.out v2 hB6).at_ 7 _ rfl
              have HB6 := Lib.hid hB6
              have hkk : (k' : Int) ≤ 20 := by omega
              have hk00 : (0 : Int) ≤ (k' : Int) := by omega
              clear hS2 hB6 cN cU
              go_wp2_with fail
              go_quiet (fail)
              go_wp2_with fail
              go_roundw
              case rel => exact ⟨j + 1, by go_num, by omega, Lib.hid (HB6.out.trans (below_drewN' (Below.refl _ _) _ |>.mono HB6.out.size))⟩
              case measure => first | (simp [intOf]; done) | (simp [intOf]; omega)
            · obtain rfl : j = n4 := by omega
              go_wp2_with fail
              refine (cl.out _).mono ?_
              rintro e w9 ⟨rfl, hb9⟩
              have HB9 : Hid (Below w.heap.size w w9) := Lib.hid (HFIN.out _ (HB.out.trans (hb9.mono HB.out.size)))
              clear hb9
              go_wp2_with fail
              go_ret
              exact ⟨rfl, HB9.out⟩
        · have t1 : decide ((f : Int) ≥ (fn : Int)) = true := by rw [decide_eq_true_eq]; omega
          have t1b : decide (fn ≤ f) = true := by rw [decide_eq_true_eq]; omega
          go_wp2_with fail
          refine (cl.out _).mono ?_
          rintro e w9 ⟨rfl, hb9⟩
          have HB9 : Hid (Below w.heap.size w w9) := Lib.hid (HBW.out _ (HB3.out.trans (hb9.mono HB3.out.size)))
          clear hb9
          go_wp2_with fail
          go_ret
          exact ⟨rfl, HB9.out⟩
end Go.Proofs.Ytobmjnmcjddhcaa
