/-
  Graphs of programs: whether a program is small; the walk of GraphSites.
-/
import Derived.Test.YtfaifoidepeaoaaGs7
import Derived.Test.YtfaifoidepeaoaaGs8
import Derived.Test.YtfaifoidepeaoaaGsS
namespace Go.Proofs.Ytfaifoidepeaoaa
open Go.RowKit Go.Maps
set_option linter.unusedSimpArgs false
set_option linter.unusedVariables false
def smallF (x : DFunc) : Bool := smallB x.outer.length x.params.length x.results.length x.locals.length x.code.length x.lines.length x.nodes.length x.at_.length x.live.length
theorem smallF_code {x : DFunc} (h : smallF x = true) : x.code.length ≤ 150 := by
  unfold smallF smallB at h
  simp at h
  exact h.1
def IsSm (fs : List DFunc) (w : World) (e : Ending) (w' : World) : Prop := ∃ r : Bool, e = .returned (.bool r) ∧ (r = true → fs.length ≤ 50 ∧ ∀ x ∈ fs, smallF x = true) ∧ Below w.heap.size w w'
theorem bound_of {w : World} {B : Nat} {A0 A1 A2 A3 : Option Addr} {n0 n1 n2 n3 c0 c1 c2 c3 : Nat} {a b c d : List Int} (h0 : SlR 1 8 (RInt .i64) w B A0 n0 c0 a) (h1 : SlR 1 8 (RInt .i64) w B A1 n1 c1 b) (h2 : SlR 1 8 (RInt .i64) w B A2 n2 c2 c) (h3 : SlR 1 8 (RInt .i64) w B A3 n3 c3 d) (n4 n5 n6 n7 n8 : Nat) : BoundL n0 n1 n2 n3 n4 n5 n6 n7 n8 := by
  have e0 := h0.2.2.2.1
  have e1 := h1.2.2.2.1
  have e2 := h2.2.2.2.1
  have e3 := h3.2.2.2.1
  unfold reachBytes at e0 e1 e2 e3
  unfold BoundL
  omega
set_option maxRecDepth 100000 in
set_option maxHeartbeats 4000000 in
theorem small16_any (B : Nat) (FA : Option Addr) (fn fc : Nat) (fs : List DFunc) (w : World) (h : SlR 11 240 RFunc w B FA fn fc fs) (hB : B ≤ w.heap.size) :
    Calls Try.prog 4 #[.agg #[.slice FA fn fc]] w (IsSm fs w) := by
  obtain ⟨w1, hw1⟩ : ∃ X, w.alloc (.cells #[.slice FA fn fc] 24) = X := ⟨_, rfl⟩
  obtain ⟨g, hg⟩ : ∃ g, w.heap.size = g := ⟨_, rfl⟩
  have hb1 : Below g w w1 := by rw [← hw1, ← hg]; exact bl_one _
  have EQ : Hid (∀ W, Below w1.heap.size w1 W → W.cell? ⟨g, 0, none⟩ = some (.slice FA fn fc)) := Lib.hid fun W hW => (hW.cell (p := ⟨g, 0, none⟩) (by rw [← hw1]; simp; omega)).trans (by rw [← hw1, ← hg]; exact (Cells.new w [.slice FA fn fc] _).at_ 0 _ rfl)
  have H := Lib.hid h
  have HBW : Hid (∀ W, Below w1.heap.size w1 W → Below g w W) := Lib.hid fun W hW => hb1.trans (hW.mono (by have := hb1.size; omega))
  have hgE : Hid (w.heap.size = g ∧ B ≤ g) := Lib.hid ⟨hg, by omega⟩
  have HLN : Hid (fs.length = fn) := Lib.hid h.1
  have HFN : Hid (fn * 240 ≤ reachBytes) := Lib.hid h.2.2.2.1
  clear h hb1 hB
  go_enter Try.func4, Try.ntmps4
  go_wp2_with fail
  clear hw1
  go_loopw [3] (fun i' wr => ∃ k : Nat, i' = .int .i64 k ∧ k ≤ fn ∧ k ≤ 50 ∧ Hid ((∀ x ∈ fs.take k, smallF x = true) ∧ Below w1.heap.size w1 wr)) (fun i' _ => 50 - (intOf i').toNat)
  case atStart => exact ⟨0, rfl, Nat.zero_le _, Nat.zero_le _, Lib.hid ⟨by simp, Below.refl _ _⟩⟩
  case round =>
    obtain ⟨k, rfl, hk, hk50, HK⟩ := hrel
    have q0 := EQ.out wr HK.out.2
    have hk0 : (0 : Int) ≤ (k : Int) := by omega
    have HBg := Lib.hid (HBW.out wr HK.out.2)
    by_cases hlt : k < fn
    · have hkn : (k : Int) < (fn : Int) := by omega
      by_cases h50 : k < 50
      · have hk5 : (k : Int) < 50 := by omega
        obtain ⟨b, off, x, cs, rfl, hb, hx, hl, hc, hr⟩ := SlR.at_ H.out hlt
        obtain ⟨A0, n0, c0, A1, n1, c1, A2, n2, c2, A3, n3, c3, A4, n4, c4, A5, n5, c5, A6, n6, c6, A7, n7, c7, A8, n8, c8, rfl, z, r0, r1, r2, r3, r4, r5, r6, r7, r8⟩ := hr
        have hcell : ∀ j u, [Value.string x.name, .bool x.inner, .slice A0 n0 c0, .slice A1 n1 c1, .slice A2 n2 c2, .slice A3 n3 c3, .slice A4 n4 c4, .slice A5 n5 c5, .slice A6 n6 c6, .slice A7 n7 c7, .slice A8 n8 c8][j]? = some u → wr.cell? ⟨b, off + (k * 11 + j), none⟩ = some u := fun j u hj => (HBg.out.cell (p := ⟨b, off + (k * 11 + j), none⟩) (by have := hgE.out; show b < g; omega)).trans (hc j u hj)
        have y0 := hcell 0 _ rfl
        have y1 := hcell 1 _ rfl
        have y2 := hcell 2 _ rfl
        have y3 := hcell 3 _ rfl
        have y4 := hcell 4 _ rfl
        have y5 := hcell 5 _ rfl
        have y6 := hcell 6 _ rfl
        have y7 := hcell 7 _ rfl
        have y8 := hcell 8 _ rfl
        have y9 := hcell 9 _ rfl
        have y10 := hcell 10 _ rfl
        simp only [Nat.add_zero, ← Nat.add_assoc] at y0 y1 y2 y3 y4 y5 y6 y7 y8 y9 y10
        have cS := Lib.hid (small15_any x.name x.inner A0 n0 c0 A1 n1 c1 A2 n2 c2 A3 n3 c3 A4 n4 c4 A5 n5 c5 A6 n6 c6 A7 n7 c7 A8 n8 c8 wr (bound_of r0 r1 r2 r3 n4 n5 n6 n7 n8))
        have HX : Hid (smallB n0 n1 n2 n3 n4 n5 n6 n7 n8 = smallF x) := Lib.hid (by unfold smallF; rw [r0.1, r1.1, r2.1, r3.1, r4.1, r5.1, r6.1, r7.1, r8.1])
        have HT : Hid (smallF x = true → ∀ y ∈ fs.take (k + 1), smallF y = true) := Lib.hid (fun hs y hy => by
          rw [← take_snoc' fs k x hx] at hy
          rcases List.mem_append.1 hy with hy | hy
          · exact HK.out.1 y hy
          · rw [List.mem_singleton] at hy; subst hy; exact hs)
        rw [HX.out] at cS
        obtain ⟨r, hrr⟩ : ∃ r, smallF x = r := ⟨_, rfl⟩
        obtain ⟨nm, hnm⟩ : ∃ r, x.name = r := ⟨_, rfl⟩
        obtain ⟨inn, hin⟩ : ∃ r, x.inner = r := ⟨_, rfl⟩
        rw [hrr, hnm, hin] at cS
        rw [hrr] at HT
        rw [hnm] at y0
        rw [hin] at y1
        clear hcell hc hx hb hl r0 r1 r2 r3 r4 r5 r6 r7 r8 z HX hrr hnm hin
        go_wp2_with fail
        refine cS.out.mono ?_
        rintro e w2 ⟨rfl, hb2⟩
        have HB2 : Hid (Below w1.heap.size w1 w2) := Lib.hid (HK.out.2.trans (hb2.mono HK.out.2.size))
        clear hb2 cS q0 y0 y1 y2 y3 y4 y5 y6 y7 y8 y9 y10
        cases r with
        | true =>
          have HT2 := Lib.hid (HT.out rfl)
          clear HT
          go_wp2_with fail
          go_roundw
          case rel => exact ⟨k + 1, by go_num, by omega, by omega, Lib.hid ⟨HT2.out, HB2.out⟩⟩
          case measure => simp [intOf]; omega
        | false =>
          clear HT
          go_wp2_with fail
          go_ret
          exact ⟨false, rfl, (fun h => by cases h), by rw [hgE.out.1]; exact HBW.out w2 HB2.out⟩
      · obtain rfl : k = 50 := by omega
        have hk5 : ¬ ((50 : Nat) : Int) < 50 := by omega
        by_cases hf : fn ≤ 50
        · omega
        · have h51 : (50 : Int) < (fn : Int) := by omega
          have hd : decide ((fn : Int) ≤ 50) = false := by simp; omega
          go_wp2_with fail
          go_ret
          exact ⟨false, rfl, (fun h => by cases h), by rw [hgE.out.1]; exact HBg.out⟩
    · obtain rfl : k = fn := by omega
      have h50' : (k : Int) ≤ 50 := by omega
      have HALL : Hid (fs.length ≤ 50 ∧ ∀ x ∈ fs, smallF x = true) := Lib.hid ⟨by have := HLN.out; omega, by have h1 := HK.out.1; rw [List.take_of_length_le (by have := HLN.out; omega)] at h1; exact h1⟩
      go_wp2_with fail
      go_ret
      exact ⟨true, rfl, fun _ => HALL.out, by rw [hgE.out.1]; exact HBg.out⟩

theorem two_at {w7 : World} {b1 : Nat} {A6 A7 : Option Addr} {m c6 c7 : Nat} {l : List (Int × Int)} (h7 : w7.ownsRow b1 26 2 (.slice A7 m c7) m (rowS l)) (h6 : w7.ownsRow b1 26 2 (.slice A6 m c6) m (rowS l)) {k : Nat} (hk : k < m) (W : World) (hW : Below w7.heap.size w7 W) :
    ∃ x y : Int, (∃ b o, A7 = some ⟨b, o, none⟩ ∧ W.cell? ⟨b, o + k * 2, none⟩ = some (.int .i64 x) ∧ W.cell? ⟨b, o + k * 2 + 1, none⟩ = some (.int .i64 y)) ∧ ∃ b o, A6 = some ⟨b, o, none⟩ ∧ W.cell? ⟨b, o + k * 2, none⟩ = some (.int .i64 x) ∧ W.cell? ⟨b, o + k * 2 + 1, none⟩ = some (.int .i64 y) := by
  have hl : l.length = m := by
    have h1 := h7.1
    unfold rowS at h1
    rw [flatMap_len cellsP (sz := 2) (fun _ => rfl)] at h1
    omega
  obtain ⟨p, hp⟩ : ∃ p, l[k]? = some p := ⟨_, List.getElem?_eq_getElem (by omega)⟩
  have key : ∀ {A : Option Addr} {c : Nat}, w7.ownsRow b1 26 2 (.slice A m c) m (rowS l) → ∃ b o, A = some ⟨b, o, none⟩ ∧ W.cell? ⟨b, o + k * 2, none⟩ = some (.int .i64 p.1) ∧ W.cell? ⟨b, o + k * 2 + 1, none⟩ = some (.int .i64 p.2) := by
    intro A c h
    rcases h.2 with ⟨hv, rfl⟩ | ⟨g, cap, cur, hv, _, hb, _⟩
    · omega
    · simp only [Value.slice.injEq, true_and] at hv
      obtain ⟨rfl, rfl⟩ := hv
      have hcell := fun j u hj => h.cells (g := g) rfl j u hj
      have hg : g < w7.heap.size := (Array.getElem?_eq_some_iff.1 hb).1
      have c0 := hcell (k * 2 + 0) (.int .i64 p.1) (by unfold rowS; exact flatMap_at cellsP (fun _ => rfl) l k 0 p _ (by omega) hp rfl)
      have c1 := hcell (k * 2 + 1) (.int .i64 p.2) (by unfold rowS; exact flatMap_at cellsP (fun _ => rfl) l k 1 p _ (by omega) hp rfl)
      rw [add_zero_at] at c0 c1
      refine ⟨g, 0, rfl, ?_, ?_⟩
      · rw [hW.cell (p := ⟨g, 0 + k * 2, none⟩) hg]
        simpa using c0
      · rw [hW.cell (p := ⟨g, 0 + k * 2 + 1, none⟩) hg]
        simpa using c1
  exact ⟨p.1, p.2, key h7, key h6⟩
theorem eq_site (x y : Int) (W : World) : (Op.equalIn 10000 26 (.agg #[.int .i64 x, .int .i64 y]) (.agg #[.int .i64 x, .int .i64 y])).run Try.prog W = .ok true W := by
  have e0 : ∀ a : Int, (Op.equalIn 9999 3 (.int .i64 a) (.int .i64 a)).run Try.prog W = .ok true W := fun a => by
    rw [run_equalIn_int (P := Try.prog) W 9998 3 .i64 .i64 a a Try.underlying3]
    simp
  rw [run_equalIn_struct W 9999 26 _ _ (by simp only [Program.fieldsOf, Try.underlying26]) (by kernel_rfl)]
  simp [go_sem, part, e0]
set_option maxRecDepth 100000 in
set_option maxHeartbeats 8000000 in
theorem graphSites_walk (cs0 : Array Value) (x0 : DProgram) (cs1 : Array Value) (x1 : DSite) (w : World) (h0 : RProgram w w.heap.size cs0.toList x0) (h1 : RSite w w.heap.size cs1.toList x1) :
    Calls Try.prog 3 #[.agg cs0, .agg cs1] w fun e w' => e = .returned (.bool true) ∧ Below w.heap.size w w' := by
  obtain ⟨FA, fn, fc, e0, hfs⟩ := h0
  obtain ⟨e1, _⟩ := h1
  obtain rfl : cs0 = #[.slice FA fn fc] := by rw [← Array.toArray_toList (xs := cs0), e0]
  obtain ⟨f, pc⟩ := x1
  obtain rfl : cs1 = #[.int .i64 f, .int .i64 pc] := by rw [← Array.toArray_toList (xs := cs1), e1]
  obtain ⟨fs⟩ := x0
  dsimp only at hfs
  have cl := Lib.hid graph_lives
  obtain ⟨codes, hco⟩ : ∃ l, fs.map DFunc.code = l := ⟨_, rfl⟩
  obtain ⟨g, hg⟩ : ∃ g, w.heap.size = g := ⟨_, rfl⟩
  obtain ⟨w1, hw1⟩ : ∃ X, (w.alloc (.cells #[.slice FA fn fc] 24)).alloc (.cells #[.int .i64 f, .int .i64 pc] 26) = X := ⟨_, rfl⟩
  have hs1 : (w.alloc (.cells #[.slice FA fn fc] 24)).heap.size = g + 1 := by rw [← hg]; simp
  have x2 : Cells w1 g [.slice FA fn fc] := by rw [← hw1, ← hg]; exact (Cells.new w [.slice FA fn fc] _).on (bl_one _)
  have y2 : Cells w1 (g + 1) [.int .i64 f, .int .i64 pc] := by rw [← hw1, ← hs1]; exact Cells.new _ [.int .i64 f, .int .i64 pc] _
  have hb1 : Below w.heap.size w w1 := by rw [← hw1]; exact (bl_one _).alloc (by simp) _
  have EQ : Hid (∀ W, Below w1.heap.size w1 W → W.cell? ⟨g, 0, none⟩ = some (.slice FA fn fc) ∧ W.cell? ⟨g + 1, 0, none⟩ = some (.int .i64 f) ∧ W.cell? ⟨g + 1, 1, none⟩ = some (.int .i64 pc)) := Lib.hid fun W hW => ⟨(x2.on hW).at_ 0 _ rfl, (y2.on hW).at_ 0 _ rfl, (y2.on hW).at_ 1 _ rfl⟩
  have HB1 := Lib.hid hb1
  have HP : Hid (∀ W, Below w1.heap.size w1 W → PgW W w.heap.size FA fn fc codes) := Lib.hid fun W hW => by rw [← hco]; exact (pgw_of hfs).keep (hb1.trans (hW.mono hb1.size))
  have HWS : Hid (∀ W, Below w1.heap.size w1 W → w.heap.size ≤ W.heap.size) := Lib.hid fun W hW => Nat.le_trans hb1.size hW.size
  have cSm := Lib.hid (small16_any w.heap.size FA fn fc fs w1 (SlR.keep stable_Func hfs fun p hp => hb1.cell hp) hb1.size)
  have HSM : Hid (fs.length = fn ∧ ∀ C ∈ codes, ∃ x ∈ fs, x.code = C) := Lib.hid ⟨hfs.1, fun C hC => by rw [← hco] at hC; obtain ⟨x, hx, e⟩ := List.mem_map.1 hC; exact ⟨x, hx, e⟩⟩
  obtain ⟨q0, q1, q2⟩ := EQ.out w1 (Below.refl _ _)
  clear x2 y2 hb1 hfs e0 e1 hco
  go_enter Try.func3, Try.ntmps3
  go_wp2_with fail
  refine cSm.out.mono ?_
  rintro e w2 ⟨r, rfl, hr, hb2⟩
  have HR := Lib.hid hr
  have HC2 := Lib.hid hb2
  have HB2 : Hid (Below w.heap.size w w2) := Lib.hid (HB1.out.trans (hb2.mono HB1.out.size))
  clear hr hb2 cSm q0 q1 q2
  cases r with
  | false =>
    go_wp2_with fail
    refine (cl.out w2).mono ?_
    rintro e w3 ⟨rfl, hb3⟩
    have HB3 : Hid (Below w.heap.size w w3) := Lib.hid (HB2.out.trans (hb3.mono HB2.out.size))
    clear hb3
    go_wp2_with fail
    go_ret
    exact ⟨rfl, HB3.out⟩
  | true =>
    obtain ⟨hfn, hsm⟩ := HR.out rfl
    have hfn : fn ≤ 50 := by have := HSM.out.1; omega
    have HS : Hid (∀ C ∈ codes, C.length ≤ 150) := Lib.hid fun C hC => by obtain ⟨x, hx, rfl⟩ := HSM.out.2 C hC; exact smallF_code (hsm x hx)
    have hSL : Hid ((sitesM codes f).length ≤ 150) := Lib.hid (sites_len codes f HS.out)
    clear hsm HR HSM
    obtain ⟨q0, q1, q2⟩ := EQ.out w2 HC2.out
    have cT := Lib.hid (target_any w.heap.size FA fn fc codes f pc w2 (HP.out w2 HC2.out) (HWS.out w2 HC2.out))
    go_wp2_with fail
    refine cT.out.mono ?_
    rintro e w3 ⟨rfl, hb3⟩
    have HC3 : Hid (Below w1.heap.size w1 w3) := Lib.hid (HC2.out.trans (hb3.mono HC2.out.size))
    clear hb3 cT q0 q1 q2
    obtain ⟨q0, q1, q2⟩ := EQ.out w3 HC3.out
    have cT := Lib.hid (rtarget_any w.heap.size FA fn fc codes f pc w3 (HP.out w3 HC3.out) (HWS.out w3 HC3.out))
    obtain ⟨t, ht⟩ : ∃ t, targetM codes f pc = t := ⟨_, rfl⟩
    rw [ht] at cT
    simp only [ht]
    clear ht
    obtain ⟨tg, tb⟩ := t
    go_wp2_with fail
    refine cT.out.mono ?_
    rintro e w5 ⟨rfl, hb5⟩
    have HC5 : Hid (Below w1.heap.size w1 w5) := Lib.hid (HC3.out.trans (hb5.mono HC3.out.size))
    have HB5 : Hid (Below w.heap.size w w5) := Lib.hid (HB1.out.trans (HC5.out.mono HB1.out.size))
    clear hb5 cT q0 q1 q2
    have tb1 : (tb == tb) = true := by simp
    have HW5 : Hid (∀ W, Below w5.heap.size w5 W → Below w1.heap.size w1 W) := Lib.hid fun W hW => HC5.out.trans (hW.mono HC5.out.size)
    have cA : Hid (∀ W, Below w5.heap.size w5 W → Calls Try.prog 8 #[.agg #[.slice FA fn fc], .int .i64 f] W (IsCal (callersUpto codes f fn) W)) := Lib.hid fun W hW => callers_any w.heap.size FA fn fc codes f W (HP.out W (HW5.out W hW)) (HWS.out W (HW5.out W hW)) hfn HS.out
    have cB : Hid (∀ W, Below w5.heap.size w5 W → Calls Try.prog 9 #[.agg #[.slice FA fn fc], .int .i64 f] W (IsCal (callersUpto codes f fn) W)) := Lib.hid fun W hW => rcallers_any w.heap.size FA fn fc codes f W (HP.out W (HW5.out W hW)) (HWS.out W (HW5.out W hW)) hfn HS.out
    have cS1 : Hid (∀ W, Below w5.heap.size w5 W → Calls Try.prog 11 #[.agg #[.slice FA fn fc], .int .i64 f] W (IsRow (sitesM codes f) W)) := Lib.hid fun W hW => sites_any w.heap.size FA fn fc codes f W (HP.out W (HW5.out W hW)) (HWS.out W (HW5.out W hW))
    have cS2 : Hid (∀ W, Below w5.heap.size w5 W → Calls Try.prog 12 #[.agg #[.slice FA fn fc], .int .i64 f] W (IsRow (sitesM codes f) W)) := Lib.hid fun W hW => rsites_any w.heap.size FA fn fc codes f W (HP.out W (HW5.out W hW)) (HWS.out W (HW5.out W hW))
    go_wp2_with fail
    refine wp_region_held (S := fun W => Below w5.heap.size w5 W) (by kernel_rfl) ?_
    change wpAnyH _ _ _ _ _ _ _ _ (World.drew _)
    have hS0 : Below w5.heap.size w5 w5.drew := (Below.refl _ _).drew
    have G0 : Hid (Below w.heap.size w w5.drew) := Lib.hid HB5.out.drew
    have HWK : Hid (∀ W, Below w5.heap.size w5 W → Below w1.heap.size w1 W) := Lib.hid fun W hW => HC5.out.trans (hW.mono HC5.out.size)
    refine wpAnyH_take (i := 0) (v := .agg #[.slice FA fn fc]) rfl (by kernel_rfl) (by kernel_rfl) (by kernel_rfl) (fun _ _ _ h => h) (Or.inl ⟨by rfl, by intro W hW; obtain ⟨q0, q1, q2⟩ := EQ.out W (HWK.out W hW); go_simp; try (first | (with_reducible rfl) | omega)⟩) hS0 ?_
    refine wpAnyH_take (i := 1) (v := .pointer (some ⟨g + 1, 0, none⟩)) rfl (by kernel_rfl) (by kernel_rfl) (by kernel_rfl) (fun _ _ _ h => h) (Or.inl ⟨by rfl, by intro W hW; go_simp; try (first | (with_reducible rfl) | omega)⟩) hS0 ?_
    refine wpAnyH_take (i := 2) (v := .int .i64 f) rfl (by kernel_rfl) (by kernel_rfl) (by kernel_rfl) (fun _ _ _ h => h) (Or.inl ⟨by rfl, by intro W hW; obtain ⟨q0, q1, q2⟩ := EQ.out W (HWK.out W hW); go_simp; try (first | (with_reducible rfl) | omega)⟩) hS0 ?_
    refine wpAnyH_take (i := 4) (v := .agg #[.slice FA fn fc]) rfl (by kernel_rfl) (by kernel_rfl) (by kernel_rfl) (fun _ _ _ h => h) (Or.inl ⟨by rfl, by intro W hW; obtain ⟨q0, q1, q2⟩ := EQ.out W (HWK.out W hW); go_simp; try (first | (with_reducible rfl) | omega)⟩) hS0 ?_
    try go_simp
    refine wpAnyH_take (i := 5) (v := .pointer (some ⟨g + 1, 0, none⟩)) rfl (by kernel_rfl) (by kernel_rfl) (by kernel_rfl) (fun _ _ _ h => h) (Or.inl ⟨by rfl, by intro W hW; go_simp; try (first | (with_reducible rfl) | omega)⟩) hS0 ?_
    refine wpAnyH_take (i := 6) (v := .int .i64 f) rfl (by kernel_rfl) (by kernel_rfl) (by kernel_rfl) (fun _ _ _ h => h) (Or.inl ⟨by rfl, by intro W hW; obtain ⟨q0, q1, q2⟩ := EQ.out W (HWK.out W hW); go_simp; try (first | (with_reducible rfl) | omega)⟩) hS0 ?_
    try go_simp
    refine wpAnyH_one (i := 3) (by kernel_rfl) rfl (fun K hK => ?_)
    go_simp
    refine (cA.out _ hS0).mono ?_
    rintro e w6 ⟨A6, m6, c6, rfl, hm6, ho6, hb6⟩
    have hS6 := hS0.trans (hb6.mono hS0.size)
    have G6 : Hid (Below w.heap.size w w6) := Lib.hid (G0.out.trans (hb6.mono G0.out.size))
    have O6 : Hid (w6.ownsRow w5.heap.size 26 2 (.slice A6 m6 c6) m6 (rowS (callersUpto codes f fn))) := Lib.hid (own_less ho6 hS0.size)
    clear ho6
    clear hb6
    go_simp
    refine hK _ _ ⟨hS6, ?_⟩; clear hK K
    refine wpAnyH_one (i := 7) (by kernel_rfl) rfl (fun K hK => ?_)
    go_simp
    refine (cB.out _ hS6).mono ?_
    rintro e w7 ⟨A7, m7, c7, rfl, hm7, ho7, hb7⟩
    have hS7 := hS6.trans (hb7.mono hS6.size)
    have G7 : Hid (Below w.heap.size w w7) := Lib.hid (G6.out.trans (hb7.mono G6.out.size))
    obtain rfl : m7 = m6 := by have e1 := O6.out.1; have e2 := ho7.1; omega
    have O7 : Hid (w7.ownsRow w5.heap.size 26 2 (.slice A7 m7 c7) m7 (rowS (callersUpto codes f fn))) := Lib.hid (own_less ho7 hS6.size)
    have O67 : Hid (w7.ownsRow w5.heap.size 26 2 (.slice A6 m7 c6) m7 (rowS (callersUpto codes f fn))) := Lib.hid (own_keep O6.out hb7)
    clear ho7
    clear hb7
    go_simp
    refine hK _ _ ⟨hS7, ?_⟩; clear hK K
    refine wpAnyH_one (i := 8) (by kernel_rfl) rfl (fun K hK => ?_)
    go_simp
    refine hK _ _ ⟨hS7, ?_⟩; clear hK K
    refine wpAnyH_one (i := 9) (by kernel_rfl) rfl (fun K hK => ?_)
    go_simp
    refine hK _ _ ⟨hS7, ?_⟩; clear hK K
    try go_simp
    refine wpAnyH_done (by kernel_rfl) ?_ _
    have HC7 : Hid (Below w5.heap.size w5 w7) := Lib.hid hS7
    clear hS7 hS6 hS0
    go_simp
    have tm : ((m7 : Int) != (m7 : Int)) = false := by simp
    go_wp2_with fail
    go_loopw [11] (fun i wr => ∃ k : Nat, i = .int .i64 k ∧ k ≤ m7 ∧ Hid (Below w5.heap.size w5 wr) ∧ Hid (Below w7.heap.size w7 wr)) (fun i _ => m7 - (intOf i).toNat)
    case atStart => exact ⟨0, rfl, Nat.zero_le _, HC7, Lib.hid (Below.refl _ _)⟩
    case round =>
      obtain ⟨k, rfl, hk, HK, HK7⟩ := hrel
      have hk0 : (0 : Int) ≤ (k : Int) := by omega
      have hkb : (k : Int) ≤ 7500 := by omega
      by_cases hlt : k < m7
      · have hkn : (k : Int) < (m7 : Int) := by omega
        obtain ⟨x, y, hA, hB⟩ := two_at O7.out O67.out hlt wr HK7.out
        obtain ⟨b6, o6, rfl, y0, y1⟩ := hA
        obtain ⟨b7, o7, rfl, z0, z1⟩ := hB
        have heq : ∀ W, (Op.equalIn 10000 26 (.agg #[.int .i64 x, .int .i64 y]) (.agg #[.int .i64 x, .int .i64 y])).run Try.prog W = .ok true W := fun W => eq_site x y W
        go_wp2_with fail
        go_quiet (fail)
        go_wp2_with fail
        go_roundw
        case rel => exact ⟨k + 1, by go_num, by omega, Lib.hid (below_drewN' HK.out _), Lib.hid (below_drewN' HK7.out _)⟩
        case measure => simp [intOf]; omega
      · obtain rfl : k = m7 := by omega
        go_wp2_with fail
        refine wp_region_held (S := fun W => Below w5.heap.size w5 W) (by kernel_rfl) ?_
        change wpAnyH _ _ _ _ _ _ _ _ (World.drew _)
        have hS0 : Below w5.heap.size w5 wr.drew := HK.out.drew
        have G0 : Hid (Below w.heap.size w wr.drew) := Lib.hid (HB5.out.trans (HK.out.drew.mono HB5.out.size))
        refine wpAnyH_take (i := 0) (v := .int .i64 tg) rfl (by kernel_rfl) (by kernel_rfl) (by kernel_rfl) (fun _ _ _ h => h) (Or.inl ⟨by rfl, by intro W hW; go_simp; try (first | (with_reducible rfl) | omega)⟩) hS0 ?_
        refine wpAnyH_take (i := 1) (v := .int .i64 tg) rfl (by kernel_rfl) (by kernel_rfl) (by kernel_rfl) (fun _ _ _ h => h) (Or.inl ⟨by rfl, by intro W hW; go_simp; try (first | (with_reducible rfl) | omega)⟩) hS0 ?_
        refine wpAnyH_take (i := 2) (v := .bool true) rfl (by kernel_rfl) (by kernel_rfl) (by kernel_rfl) (fun _ _ _ h => h) (Or.inl ⟨by rfl, by intro W hW; go_simp; try (first | (with_reducible rfl) | omega)⟩) hS0 ?_
        try go_simp
        refine wpAnyH_take (i := 3) (v := .bool true) rfl (by kernel_rfl) (by kernel_rfl) (by kernel_rfl) (fun _ _ _ h => h) (Or.inl ⟨by rfl, by intro W hW; go_simp; try (first | (with_reducible rfl) | omega)⟩) hS0 ?_
        refine wpAnyH_take (i := 4) (v := .bool tb) rfl (by kernel_rfl) (by kernel_rfl) (by kernel_rfl) (fun _ _ _ h => h) (Or.inl ⟨by rfl, by intro W hW; go_simp; try (first | (with_reducible rfl) | omega)⟩) hS0 ?_
        refine wpAnyH_take (i := 5) (v := .bool tb) rfl (by kernel_rfl) (by kernel_rfl) (by kernel_rfl) (fun _ _ _ h => h) (Or.inl ⟨by rfl, by intro W hW; go_simp; try (first | (with_reducible rfl) | omega)⟩) hS0 ?_
        try go_simp
        refine wpAnyH_take (i := 6) (v := .bool true) rfl (by kernel_rfl) (by kernel_rfl) (by kernel_rfl) (fun _ _ _ h => h) (Or.inl ⟨by rfl, by intro W hW; go_simp; try (first | (with_reducible rfl) | omega)⟩) hS0 ?_
        refine wpAnyH_take (i := 7) (v := .bool true) rfl (by kernel_rfl) (by kernel_rfl) (by kernel_rfl) (fun _ _ _ h => h) (Or.inl ⟨by rfl, by intro W hW; go_simp; try (first | (with_reducible rfl) | omega)⟩) hS0 ?_
        refine wpAnyH_take (i := 8) (v := .bool true) rfl (by kernel_rfl) (by kernel_rfl) (by kernel_rfl) (fun _ _ _ h => h) (Or.inl ⟨by rfl, by intro W hW; go_simp; try (first | (with_reducible rfl) | omega)⟩) hS0 ?_
        try go_simp
        refine wpAnyH_take (i := 9) (v := .agg #[.slice FA fn fc]) rfl (by kernel_rfl) (by kernel_rfl) (by kernel_rfl) (fun _ _ _ h => h) (Or.inl ⟨by rfl, by intro W hW; obtain ⟨q0, q1, q2⟩ := EQ.out W (HWK.out W hW); go_simp; try (first | (with_reducible rfl) | omega)⟩) hS0 ?_
        refine wpAnyH_take (i := 10) (v := .pointer (some ⟨g + 1, 0, none⟩)) rfl (by kernel_rfl) (by kernel_rfl) (by kernel_rfl) (fun _ _ _ h => h) (Or.inl ⟨by rfl, by intro W hW; go_simp; try (first | (with_reducible rfl) | omega)⟩) hS0 ?_
        refine wpAnyH_take (i := 11) (v := .int .i64 f) rfl (by kernel_rfl) (by kernel_rfl) (by kernel_rfl) (fun _ _ _ h => h) (Or.inl ⟨by rfl, by intro W hW; obtain ⟨q0, q1, q2⟩ := EQ.out W (HWK.out W hW); go_simp; try (first | (with_reducible rfl) | omega)⟩) hS0 ?_
        try go_simp
        refine wpAnyH_take (i := 13) (v := .agg #[.slice FA fn fc]) rfl (by kernel_rfl) (by kernel_rfl) (by kernel_rfl) (fun _ _ _ h => h) (Or.inl ⟨by rfl, by intro W hW; obtain ⟨q0, q1, q2⟩ := EQ.out W (HWK.out W hW); go_simp; try (first | (with_reducible rfl) | omega)⟩) hS0 ?_
        refine wpAnyH_take (i := 14) (v := .pointer (some ⟨g + 1, 0, none⟩)) rfl (by kernel_rfl) (by kernel_rfl) (by kernel_rfl) (fun _ _ _ h => h) (Or.inl ⟨by rfl, by intro W hW; go_simp; try (first | (with_reducible rfl) | omega)⟩) hS0 ?_
        refine wpAnyH_take (i := 15) (v := .int .i64 f) rfl (by kernel_rfl) (by kernel_rfl) (by kernel_rfl) (fun _ _ _ h => h) (Or.inl ⟨by rfl, by intro W hW; obtain ⟨q0, q1, q2⟩ := EQ.out W (HWK.out W hW); go_simp; try (first | (with_reducible rfl) | omega)⟩) hS0 ?_
        try go_simp
        refine wpAnyH_one (i := 12) (by kernel_rfl) rfl (fun K hK => ?_)
        go_simp
        refine (cS1.out _ hS0).mono ?_
        rintro e w8 ⟨A8, m8, c8, rfl, hm8, ho8, hb8⟩
        have hS8 := hS0.trans (hb8.mono hS0.size)
        have G8 : Hid (Below w.heap.size w w8) := Lib.hid (G0.out.trans (hb8.mono G0.out.size))
        have O8 := Lib.hid ho8
        clear ho8
        clear hb8
        go_simp
        refine hK _ _ ⟨hS8, ?_⟩; clear hK K
        refine wpAnyH_one (i := 16) (by kernel_rfl) rfl (fun K hK => ?_)
        go_simp
        refine (cS2.out _ hS8).mono ?_
        rintro e w9 ⟨A9, m9, c9, rfl, hm9, ho9, hb9⟩
        have hS9 := hS8.trans (hb9.mono hS8.size)
        have G9 : Hid (Below w.heap.size w w9) := Lib.hid (G8.out.trans (hb9.mono G8.out.size))
        obtain rfl : m9 = m8 := by have e1 := O8.out.1; have e2 := ho9.1; omega
        have hm150 : m9 ≤ 150 := by have e1 := ho9.1; unfold rowI at e1; rw [List.length_map] at e1; have e2 := hSL.out; omega
        have cE := Lib.hid (ints_same m9 c8 c9 A8 A9 _ w9 (SlI.own (own_keep O8.out hb9) (by omega)) (SlI.own ho9 (by omega)) (by omega))
        clear ho9 O8
        clear hb9
        go_simp
        refine hK _ _ ⟨hS9, ?_⟩; clear hK K
        refine wpAnyH_one (i := 17) (by kernel_rfl) rfl (fun K hK => ?_)
        go_simp
        refine (cE.out).mono ?_
        rintro e w10 ⟨rfl, hb10⟩
        have hS10 := hS9.trans (hb10.mono hS9.size)
        have G10 : Hid (Below w.heap.size w w10) := Lib.hid (G9.out.trans (hb10.mono G9.out.size))
        clear hb10
        go_simp
        refine hK _ _ ⟨hS10, ?_⟩; clear hK K
        refine wpAnyH_one (i := 18) (by kernel_rfl) rfl (fun K hK => ?_)
        go_simp
        refine hK _ _ ⟨hS10, ?_⟩; clear hK K
        refine wpAnyH_one (i := 19) (by kernel_rfl) rfl (fun K hK => ?_)
        go_simp
        refine hK _ _ ⟨hS10, ?_⟩; clear hK K
        refine wpAnyH_one (i := 20) (by kernel_rfl) rfl (fun K hK => ?_)
        go_simp
        refine (cl.out w10).mono ?_
        rintro e w11 ⟨rfl, hb11⟩
        have hS11 := hS10.trans (hb11.mono hS10.size)
        have G11 : Hid (Below w.heap.size w w11) := Lib.hid (G10.out.trans (hb11.mono G10.out.size))
        clear hb11
        go_simp
        refine hK _ _ ⟨hS11, ?_⟩; clear hK K
        refine wpAnyH_one (i := 21) (by kernel_rfl) rfl (fun K hK => ?_)
        go_simp
        refine hK _ _ ⟨hS11, ?_⟩; clear hK K
        refine wpAnyH_one (i := 22) (by kernel_rfl) rfl (fun K hK => ?_)
        go_simp
        refine hK _ _ ⟨hS11, ?_⟩; clear hK K
        try go_simp
        refine wpAnyH_done (by kernel_rfl) ?_ _
        go_simp
        go_wp2_with fail
        go_ret
        exact ⟨rfl, G11.out⟩

end Go.Proofs.Ytfaifoidepeaoaa
