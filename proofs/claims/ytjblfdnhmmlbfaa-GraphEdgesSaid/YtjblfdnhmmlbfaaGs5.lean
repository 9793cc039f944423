/-
  Graphs of programs: to which functions a function leads.
-/
import Derived.Test.YtjblfdnhmmlbfaaGs4
namespace Go.Proofs.Ytjblfdnhmmlbfaa
open Go.RowKit Go.Maps
set_option linter.unusedSimpArgs false
set_option linter.unusedVariables false
/-! ### rising lists -/
theorem rising_ext : ∀ (a b : List Int), a.Pairwise (· < ·) → b.Pairwise (· < ·) → (∀ x, x ∈ a ↔ x ∈ b) → a = b
  | [], [], _, _, _ => rfl
  | [], y :: b, _, _, h => absurd ((h y).2 (by simp)) (by simp)
  | x :: a, [], _, _, h => absurd ((h x).1 (by simp)) (by simp)
  | x :: a, y :: b, ha, hb, h => by
    obtain ⟨ha1, ha2⟩ := List.pairwise_cons.1 ha
    obtain ⟨hb1, hb2⟩ := List.pairwise_cons.1 hb
    have hxy : x = y := by
      rcases List.mem_cons.1 ((h x).1 (by simp)) with e | hx
      · exact e
      · rcases List.mem_cons.1 ((h y).2 (by simp)) with e | hy
        · exact e.symm
        · have h1 := hb1 x hx
          have h2 := ha1 y hy
          omega
    subst hxy
    rw [rising_ext a b ha2 hb2 fun z => ?_]
    constructor
    · intro hz
      rcases List.mem_cons.1 ((h z).1 (by simp [hz])) with e | hz'
      · have := ha1 z hz; omega
      · exact hz'
    · intro hz
      rcases List.mem_cons.1 ((h z).2 (by simp [hz])) with e | hz'
      · have := hb1 z hz; omega
      · exact hz'
theorem sortL_rising {l : List Int} (h : l.Nodup) : (sortL l).Pairwise (· < ·) := by
  have h1 : (sortL l).Pairwise (fun x y => x ≤ y) := by
    have := List.pairwise_mergeSort (le := fun x y : Int => decide (x ≤ y)) (fun a b c h1 h2 => by simp at *; omega) (fun a b => by simp; omega) l
    exact this.imp fun h => by simpa using h
  have h2 : (sortL l).Pairwise (fun x y => x ≠ y) := (List.mergeSort_perm l _).symm.pairwise h (fun h => Ne.symm h)
  exact (h1.and h2).imp fun ⟨a, b⟩ => by omega
def leadsB (codes : List (List DInstr)) (f : Int) (ks : List Int) (g : Nat) : Bool := ((codes[f.toNat]?).getD []).any fun x => ks.contains x.op && x.a == (g : Int)
/-- The functions to which a function leads. -/
def toM (codes : List (List DInstr)) (f : Int) (ks : List Int) : List Int := if 0 ≤ f then ((List.range codes.length).filter (leadsB codes f ks)).map fun g : Nat => (g : Int) else []
theorem toM_none {codes : List (List DInstr)} {f : Int} {ks : List Int} (h : ¬ (0 ≤ f ∧ f < (codes.length : Int))) : toM codes f ks = [] := by
  unfold toM
  split
  · rw [List.map_eq_nil_iff, List.filter_eq_nil_iff]
    intro g _
    unfold leadsB
    rw [List.getElem?_eq_none (by omega)]
    simp
  · rfl
theorem toM_rising (codes : List (List DInstr)) (f : Int) (ks : List Int) : (toM codes f ks).Pairwise (· < ·) := by
  unfold toM
  split
  · rw [List.pairwise_map]
    exact (List.pairwise_lt_range.filter _).imp fun h => by omega
  · exact List.Pairwise.nil
theorem toM_mem {codes : List (List DInstr)} {i : Nat} {C : List DInstr} (hC : codes[i]? = some C) (ks : List Int) (x : Int) : x ∈ toM codes (i : Int) ks ↔ 0 ≤ x ∧ x < (codes.length : Int) ∧ ∃ y ∈ C, ks.contains y.op = true ∧ y.a = x := by
  unfold toM
  rw [if_pos (by omega), List.mem_map]
  simp only [List.mem_filter, List.mem_range, leadsB, Int.toNat_natCast, hC, Option.getD_some, List.any_eq_true, Bool.and_eq_true, beq_iff_eq]
  constructor
  · rintro ⟨g, ⟨hg, y, hy, hk, ha⟩, rfl⟩
    exact ⟨by omega, by omega, y, hy, hk, ha⟩
  · rintro ⟨h0, h1, y, hy, hk, ha⟩
    exact ⟨x.toNat, ⟨by omega, y, hy, hk, by omega⟩, by omega⟩
theorem toM_len (codes : List (List DInstr)) (f : Int) (ks : List Int) : (toM codes f ks).length ≤ codes.length := by
  unfold toM
  split
  · rw [List.length_map]
    refine Nat.le_trans (List.length_filter_le _ _) ?_
    simp
  · simp
theorem toM_of {codes : List (List DInstr)} {i : Nat} {C : List DInstr} (hC : codes[i]? = some C) {ks l : List Int} (hnd : l.Nodup) (hm : ∀ x, x ∈ l ↔ 0 ≤ x ∧ x < (codes.length : Int) ∧ ∃ y ∈ C, ks.contains y.op = true ∧ y.a = x) : sortL l = toM codes (i : Int) ks :=
  rising_ext _ _ (sortL_rising hnd) (toM_rising _ _ _) fun x => by rw [sortL_mem, hm, toM_mem hC]
/-! ### Go's library: whether a kind is among some -/
theorem contains_pre {ks : List Int} {k : Nat} {x v : Int} (hv : ks[k]? = some v) : (ks.take (k + 1)).contains x = ((ks.take k).contains x || x == v) := by
  rw [← take_snoc' ks k v hv, List.contains_eq_any_beq, List.contains_eq_any_beq, List.any_append]
  simp
def IsIdx (b : Bool) (w : World) (e : Ending) (w' : World) : Prop := ∃ i : Int, e = .returned (.int .i64 i) ∧ decide (i ≥ 0) = b ∧ w = w'
set_option maxRecDepth 100000 in
set_option maxHeartbeats 4000000 in
theorem kidx_any (A : Option Addr) (n c : Nat) (ks : List Int) (x : Int) (bq : Bool) (hbq : ks.contains x = bq) (w : World) (h : SlI w w.heap.size A n c ks) (hn : n ≤ 100) :
    Calls Try.prog 27 #[.slice A n c, .int .i64 x] w (IsIdx bq w) := by
  have HQ := Lib.hid hbq
  clear hbq
  have H := Lib.hid h
  have HL : Hid (ks.length = n) := Lib.hid h.1
  clear h
  go_enter Try.func27, Try.ntmps27
  go_wp2_with fail
  go_loop [8] (fun i => ∃ k : Nat, i = .int .i64 k ∧ k ≤ n ∧ Hid ((ks.take k).contains x = false)) (fun i => n - (intOf i).toNat)
  case atStart => exact ⟨0, rfl, Nat.zero_le _, Lib.hid (by simp)⟩
  case round =>
    obtain ⟨k, rfl, hk, hC⟩ := hrel
    have hk0 : (0 : Int) ≤ (k : Int) := by omega
    by_cases hlt : k < n
    · have hkn : (k : Int) < (n : Int) := by omega
      have hkb : (k : Int) ≤ 100 := by omega
      obtain ⟨b, off, v, rfl, hb, hv, hc⟩ := SlR.cell1 (f := Value.int .i64) H.out hlt
      have HP : Hid ((ks.take (k + 1)).contains x = (x == v)) := Lib.hid (by rw [contains_pre hv, hC.out, Bool.false_or])
      have HI : Hid (v ∈ ks) := Lib.hid (List.mem_of_getElem? hv)
      clear hv hb
      by_cases e : x = v
      · subst e
        have HC : Hid (ks.contains x = true) := Lib.hid (by simpa using HI.out)
        have t1 : (x == x) = true := by simp
        go_wp2_with fail
        go_ret
        exact ⟨(k : Int), rfl, by have h1 := HQ.out; rw [HC.out] at h1; rw [← h1]; simp, rfl⟩
      · have t1 : (x == v) = false := by simpa using e
        have HP2 : Hid ((ks.take (k + 1)).contains x = false) := Lib.hid (by rw [HP.out, t1])
        clear e HP HI
        go_wp2_with fail
        go_round
        case rel => exact ⟨k + 1, by go_num, by omega, HP2⟩
        case measure => simp [intOf]; omega
    · obtain rfl : k = n := by omega
      have HC : Hid (ks.contains x = false) := Lib.hid (by have h1 := hC.out; rw [List.take_of_length_le (by have := HL.out; omega)] at h1; exact h1)
      go_wp2_with fail
      go_ret
      exact ⟨-1, rfl, by have h1 := HQ.out; rw [HC.out] at h1; rw [← h1]; rfl, rfl⟩
set_option maxRecDepth 100000 in
theorem kcon_any (A : Option Addr) (n c : Nat) (ks : List Int) (x : Int) (w : World) (h : SlI w w.heap.size A n c ks) (hn : n ≤ 100) :
    Calls Try.prog 25 #[.slice A n c, .int .i64 x] w fun e w' => e = .returned (.bool (ks.contains x)) ∧ w = w' := by
  obtain ⟨b, hb⟩ : ∃ b, ks.contains x = b := ⟨_, rfl⟩
  have cI := Lib.hid (kidx_any A n c ks x b hb w h hn)
  rw [hb]
  clear h hb
  go_enter Try.func25, Try.ntmps25
  go_wp2_with fail
  refine cI.out.mono ?_
  rintro e w' ⟨i, rfl, rfl, rfl⟩
  go_wp2_with fail
  go_ret
  exact ⟨rfl, rfl⟩

/-- What stands while the map is filled. -/
structure LedW (w1 : World) (fn : Nat) (ks : List Int) (C : List DInstr) (mb k : Nat) (W : World) : Prop where
  ex : ∃ D, MapI W mb k D ∧ ∀ x, hasI D x = true ↔ 0 ≤ x ∧ x < (fn : Int) ∧ ∃ y ∈ C.take k, ks.contains y.op = true ∧ y.a = x
  bw : Below w1.heap.size w1 W
theorem LedW.on {w1 : World} {fn : Nat} {ks : List Int} {C : List DInstr} {mb k : Nat} {W W' : World} (h : LedW w1 fn ks C mb k W) (hb : Below W.heap.size W W') : LedW w1 fn ks C mb k W' := by
  obtain ⟨D, hD, hx⟩ := h.ex
  exact ⟨⟨D, hD.kept (row := none) ⟨hb.os, hb.tape, hb.output, hb.size, fun i hi _ => hb.block i hi⟩ (by simp), hx⟩, h.bw.trans (hb.mono h.bw.size)⟩
theorem LedW.skip {w1 : World} {fn : Nat} {ks : List Int} {C : List DInstr} {mb k : Nat} {W : World} (h : LedW w1 fn ks C mb k W) {x : DInstr} (hx : C[k]? = some x) (hn : ¬ (ks.contains x.op = true ∧ 0 ≤ x.a ∧ x.a < (fn : Int))) : LedW w1 fn ks C mb (k + 1) W := by
  obtain ⟨D, hD, h2⟩ := h.ex
  refine ⟨⟨D, hD.mono (by omega), fun z => ?_⟩, h.bw⟩
  rw [h2 z, ← take_snoc' C k x hx]
  constructor
  · rintro ⟨a, b, y, hy, hk, he⟩
    exact ⟨a, b, y, List.mem_append_left _ hy, hk, he⟩
  · rintro ⟨a, b, y, hy, hk, he⟩
    rcases List.mem_append.1 hy with hy | hy
    · exact ⟨a, b, y, hy, hk, he⟩
    · rw [List.mem_singleton] at hy
      subst hy
      subst he
      exact absurd ⟨hk, a, b⟩ hn
theorem LedW.put {w1 : World} {fn : Nat} {ks : List Int} {C : List DInstr} {mb k : Nat} {W' : World} {D : DataW Unit} (hx2 : ∀ x, hasI D x = true ↔ 0 ≤ x ∧ x < (fn : Int) ∧ ∃ y ∈ C.take k, ks.contains y.op = true ∧ y.a = x) (hm : IsMap D) {x : DInstr} (hx : C[k]? = some x) (hn : ks.contains x.op = true ∧ 0 ≤ x.a ∧ x.a < (fn : Int)) {d : DataW Unit}
    (hD : MapI W' mb (k + 1) (D.put (.int .i64 x.a) d)) (hb : Below w1.heap.size w1 W') : LedW w1 fn ks C mb (k + 1) W' := by
  refine ⟨⟨_, hD, fun z => ?_⟩, hb⟩
  rw [← take_snoc' C k x hx]
  by_cases e : z = x.a
  · subst e
    have : hasI (D.put (.int .i64 x.a) d) x.a = true := has_put_same (k := .int .i64 x.a) hm trivial d
    rw [this]
    exact ⟨fun _ => ⟨hn.2.1, hn.2.2, x, by simp, hn.1, rfl⟩, fun _ => rfl⟩
  · have : hasI (D.put (.int .i64 x.a) d) z = hasI D z := has_put_other (fun h => e (by injection h)) d
    rw [this, hx2 z]
    constructor
    · rintro ⟨a, b, y, hy, hk, he⟩
      exact ⟨a, b, y, List.mem_append_left _ hy, hk, he⟩
    · rintro ⟨a, b, y, hy, hk, he⟩
      rcases List.mem_append.1 hy with hy | hy
      · exact ⟨a, b, y, hy, hk, he⟩
      · rw [List.mem_singleton] at hy
        subst hy
        exact absurd he.symm e
def IsRow2 (l : List Int) (w : World) (e : Ending) (w' : World) : Prop := ∃ A m c, e = .returned (.slice A m c) ∧ m ≤ 1000 ∧ w'.ownsRow w.heap.size 3 1 (.slice A m c) m (rowI l) ∧ Below w.heap.size w w'
set_option maxRecDepth 100000 in
set_option maxHeartbeats 8000000 in
theorem led_any (B : Nat) (FA : Option Addr) (fn fc : Nat) (codes : List (List DInstr)) (f : Int) (KA : Option Addr) (kn kc : Nat) (ks : List Int) (w : World) (h : PgW w B FA fn fc codes) (hB : B ≤ w.heap.size) (hfn : fn ≤ 50) (hS : ∀ C ∈ codes, C.length ≤ 150) (hks : SlI w w.heap.size KA kn kc ks) (hknn : kn ≤ 100) :
    Calls Try.prog 19 #[.agg #[.slice FA fn fc], .int .i64 f, .slice KA kn kc] w (IsRow2 (toM codes f ks) w) := by
  have HL : Hid (codes.length = fn) := Lib.hid h.1
  obtain ⟨w1, hw1⟩ : ∃ X, w.alloc (.cells #[.slice FA fn fc] 24) = X := ⟨_, rfl⟩
  obtain ⟨g, hg⟩ : ∃ g, w.heap.size = g := ⟨_, rfl⟩
  have hb1 : Below g w w1 := by rw [← hw1, ← hg]; exact bl_one _
  have EQ : Hid (∀ W, Below w1.heap.size w1 W → W.cell? ⟨g, 0, none⟩ = some (.slice FA fn fc)) := Lib.hid fun W hW => (hW.cell (p := ⟨g, 0, none⟩) (by rw [← hw1]; simp; omega)).trans (by rw [← hw1, ← hg]; exact (Cells.new w [.slice FA fn fc] _).at_ 0 _ rfl)
  have HP : Hid (∀ W, Below w1.heap.size w1 W → PgW W B FA fn fc codes) := Lib.hid fun W hW => (h.keep (hb1.mono (by omega))).keep (hW.mono (by have := hb1.size; omega))
  have HKS : Hid (∀ W, Below w1.heap.size w1 W → SlI W W.heap.size KA kn kc ks) := Lib.hid fun W hW => by
    have h1 : Below g w W := hb1.trans (hW.mono (by have := hb1.size; omega))
    exact (hks.keep (by rw [hg]; exact h1) (Nat.le_refl _)).more h1.size
  have HB1 := Lib.hid hb1
  have HBg : Hid (B ≤ w1.heap.size) := Lib.hid (by have := hb1.size; omega)
  have hgE : Hid (w.heap.size = g) := Lib.hid hg
  have q0 := EQ.out w1 (Below.refl _ _)
  by_cases hf : 0 ≤ f ∧ f < (fn : Int)
  · have cI := Lib.hid (is_any FA fn fc f true (by rw [eq_comm, decide_eq_true_eq]; exact hf) w1)
    obtain ⟨hf0, hf1⟩ := hf
    obtain ⟨i, rfl⟩ : ∃ i : Nat, f = (i : Int) := ⟨f.toNat, by omega⟩
    obtain ⟨b, off, Ac, nc, cc, C, rfl, hbB, hC, hcell, hsl⟩ := (HP.out w1 (Below.refl _ _)).at_ (show i < fn by omega)
    have hcl : C.length ≤ 150 := hS C (List.mem_of_getElem? hC)
    have hnc : nc ≤ 150 := by have := hsl.1; omega
    have HC := Lib.hid hC
    have HN : Hid (C.length = nc) := Lib.hid hsl.1
    have EC : Hid (∀ W, Below w1.heap.size w1 W → W.cell? ⟨b, off + i * 11 + 6, none⟩ = some (.slice Ac nc cc)) := Lib.hid fun W hW => (hW.cell (p := ⟨b, off + i * 11 + 6, none⟩) (by have := HBg.out; show b < _; omega)).trans hcell
    have ES : Hid (∀ W, Below w1.heap.size w1 W → SlR 2 16 (RC cellsI) W B Ac nc cc C) := Lib.hid fun W hW => SlR.keep (stable_rc _) hsl fun p hp => hW.cell (by have := HBg.out; omega)
    clear hcell hsl hC hbB hb1 h hB hS hks hcl
    go_enter Try.func19, Try.ntmps19
    have hmm := @run_makeMap Try.prog
    go_wp2_with fail
    refine cI.out.mono ?_
    rintro e w2 ⟨rfl, hb2⟩
    have HB2 : Hid (Below w1.heap.size w1 w2) := Lib.hid hb2
    have q0 := EQ.out w2 hb2
    have q1 := EC.out w2 hb2
    have hi0 : (0 : Int) ≤ (i : Int) := by omega
    obtain ⟨mb, hmb⟩ : ∃ mb, w2.heap.size = mb := ⟨_, rfl⟩
    have HL0 : Hid (LedW w1 fn ks C mb 0 (w2.alloc (.map #[] 0))) := Lib.hid ⟨⟨.map [], by rw [← hmb]; exact World.ownsMap_made w2 _ _ _, fun x => ⟨fun hx => by simp [hasI, Maps.has] at hx, fun h => by obtain ⟨_, _, y, hy, _⟩ := h; simp at hy⟩⟩, hb2.alloc hb2.size _⟩
    have HMB : Hid (w1.heap.size ≤ mb) := Lib.hid (by rw [← hmb]; exact hb2.size)
    obtain ⟨w3, hw3⟩ : ∃ X, w2.alloc (.map #[] 0) = X := ⟨_, rfl⟩
    rw [hw3] at HL0
    have q0 := EQ.out w3 HL0.out.bw
    have q1 := EC.out w3 HL0.out.bw
    clear hb2 cI
    go_wp2_with fail
    clear q0 q1 hw1 hw3 hmb hmm
    go_loopw [22] (fun i' wr => ∃ (k : Nat), i' = .int .i64 k ∧ k ≤ nc ∧ Hid (LedW w1 fn ks C mb k wr)) (fun i' _ => nc - (intOf i').toNat)
    case atStart => exact ⟨0, rfl, Nat.zero_le _, HL0⟩
    case round =>
      obtain ⟨k, rfl, hk, HK⟩ := hrel
      clear HL0
      have q0 := EQ.out wr HK.out.bw
      have hk0 : (0 : Int) ≤ (k : Int) := by omega
      by_cases hlt : k < nc
      · have hkn : (k : Int) < (nc : Int) := by omega
        obtain ⟨b2, off2, x, rfl, hb2B, hx, hx0, hx1⟩ := code_at (ES.out wr HK.out.bw) hlt
        have HX := Lib.hid hx
        obtain ⟨xo, xa⟩ := x
        dsimp only at hx0 hx1
        obtain ⟨ga, hga⟩ : ∃ X, wr.heap.size = X := ⟨_, rfl⟩
        obtain ⟨wa, hwa⟩ : ∃ X, wr.alloc (.cells #[.int .i64 xo, .int .i64 xa] 53) = X := ⟨_, rfl⟩
        have hba : Below wr.heap.size wr wa := by rw [← hwa]; exact bl_one _
        have hca : Cells wa ga [.int .i64 xo, .int .i64 xa] := by rw [← hwa, ← hga]; exact Cells.new wr [.int .i64 xo, .int .i64 xa] _
        have HKA : Hid (LedW w1 fn ks C mb k wa) := Lib.hid (HK.out.on hba)
        have q1 := EQ.out wa HKA.out.bw
        have q2 := hca.at_ 0 _ rfl
        have q3 := hca.at_ 1 _ rfl
        have HCA := Lib.hid hca
        have hgaE : Hid (ga < wa.heap.size) := Lib.hid (by rw [← hwa, ← hga]; simp)
        have cC := Lib.hid (kcon_any KA kn kc ks xo wa (HKS.out wa HKA.out.bw) hknn)
        cases hcon : ks.contains xo with
        | false =>
          rw [hcon] at cC
          have HN2 : Hid (LedW w1 fn ks C mb (k + 1) wa) := Lib.hid (HKA.out.skip HX.out (fun h => by have h1 : ks.contains xo = true := h.1; rw [hcon] at h1; cases h1))
          clear hcon hba hca hx
          go_wp2_with fail
          refine cC.out.mono ?_
          rintro e w5 ⟨rfl, rfl⟩
          go_wp2_with fail
          go_roundw
          case rel => exact ⟨k + 1, by go_num, by omega, HN2⟩
          case measure => simp [intOf]; omega
        | true =>
          rw [hcon] at cC
          have HCON := Lib.hid hcon
          by_cases ha : 0 ≤ xa ∧ xa < (fn : Int)
          · have cI := Lib.hid (is_any (some ⟨b, off, none⟩) fn fc xa true (by rw [eq_comm, decide_eq_true_eq]; exact ha) wa)
            have hwf : (Lit.int .i64 xa).wf = true := WalkArith.wf_i64 (by omega)
            have HA := Lib.hid ha
            clear hcon hba hca hx ha
            go_wp2_with fail
            refine cC.out.mono ?_
            rintro e w5 ⟨rfl, rfl⟩
            go_wp2_with fail
            refine cI.out.mono ?_
            rintro e w6 ⟨rfl, hb6⟩
            have HK6 : Hid (LedW w1 fn ks C mb k w6) := Lib.hid (HKA.out.on hb6)
            have q2 := (hb6.cell (p := ⟨ga, 0, none⟩) hgaE.out).trans q2
            have q3 := (hb6.cell (p := ⟨ga, 1, none⟩) hgaE.out).trans q3
            obtain ⟨D, hD, hDx⟩ := HK6.out.ex
            have HDX := Lib.hid hDx
            have HD := Lib.hid hD
            have hkey : keyOf Try.prog 3 (.int .i64 xa) = some (.int .i64 xa) := keyOf_int_mk Try.underlying3 hwf
            have HKEY := Lib.hid hkey
            have HPUT : Hid (∀ (w7 : World) (d : DataW Unit), MapI w7 mb (k + 1) (D.put (.int .i64 xa) d) → w6.grownBy w7 (some mb) → LedW w1 fn ks C mb (k + 1) w7) := Lib.hid (fun w7 d hown7 hgrow7 => LedW.put HDX.out HD.out.isMap HX.out ⟨HCON.out, HA.out⟩ hown7 (HK6.out.bw.grown hgrow7 HK6.out.bw.size (fun j hj => by injection hj with hj; subst hj; exact HMB.out)))
            have HKM : k < maxLen := by unfold maxLen; omega
            clear hb6 cI cC hDx hD hkey
            go_wp2_with (first
              | (at_lookup; refine wpList_lookup_own_int _ rfl _ _ 54 rfl 3 3 .i64 law_int Try.underlying54 Try.underlying3 (zero_int _) mb k D rfl HD.out _ _ rfl HKEY.out ?_
                 intro c hat hwc
                 clear hat hwc)
              | (at_mapUpdate; (refine wpList_mapUpdate_own _ rfl _ _ _ 54 rfl 3 3 law_int Try.underlying54 _ mb k _ rfl HD.out HKM _ _ _ rfl rfl HKEY.out _ [] (plainElem_int Try.underlying3 (wrap64_wf _)) ?_)
                 intro w7 hown7 hgrow7
                 have HN2 : Hid (LedW w1 fn ks C mb (k + 1) w7) := Lib.hid (HPUT.out w7 _ hown7 hgrow7)
                 clear hown7 hgrow7)
              | fail)
            go_roundw
            case rel => exact ⟨k + 1, by go_num, by omega, HN2⟩
            case measure => simp [intOf]; omega
          · have cI := Lib.hid (is_any (some ⟨b, off, none⟩) fn fc xa false (by rw [eq_comm, decide_eq_false_iff_not]; exact ha) wa)
            have HA := Lib.hid ha
            clear hcon hba hca hx ha
            go_wp2_with fail
            refine cC.out.mono ?_
            rintro e w5 ⟨rfl, rfl⟩
            go_wp2_with fail
            refine cI.out.mono ?_
            rintro e w6 ⟨rfl, hb6⟩
            have HN2 : Hid (LedW w1 fn ks C mb (k + 1) w6) := Lib.hid ((HKA.out.on hb6).skip HX.out (fun h => HA.out h.2))
            clear hb6 cI cC
            go_wp2_with fail
            go_roundw
            case rel => exact ⟨k + 1, by go_num, by omega, HN2⟩
            case measure => simp [intOf]; omega
      · obtain rfl : k = nc := by omega
        obtain ⟨D, hD, hDx⟩ := HK.out.ex
        have HDX := Lib.hid hDx
        have cK := Lib.hid (keys_any mb k D wr hD (by omega))
        clear hD hDx
        go_wp2_with fail
        refine cK.out.mono ?_
        rintro e w5 ⟨A5, m5, c5, l, rfl, hm5, ⟨hnd, hmem⟩, ho5, hb5⟩
        have HO5 := Lib.hid ho5
        have HT : Hid (sortL l = toM codes (i : Int) ks) := Lib.hid (toM_of HC.out hnd (fun x => by rw [hmem x, HDX.out x, List.take_of_length_le (by have := HN.out; omega), HL.out]))
        have HB5 : Hid (Below w1.heap.size w1 w5) := Lib.hid (HK.out.bw.trans (hb5.mono HK.out.bw.size))
        have hsz5 : Hid (w1.heap.size ≤ wr.heap.size) := Lib.hid HK.out.bw.size
        clear ho5 hb5 hnd hmem cK
        go_wp2_with fail
        go_ret
        exact ⟨A5, m5, c5, rfl, by omega, by rw [← HT.out]; exact own_less HO5.out (by have := HB1.out.size; have := hgE.out; have := hsz5.out; omega), by rw [hgE.out]; exact HB1.out.trans (HB5.out.mono (by have := HB1.out.size; have := hgE.out; omega))⟩
  · have cI := Lib.hid (is_any FA fn fc f false (by rw [eq_comm, decide_eq_false_iff_not]; exact hf) w1)
    have HC : Hid (toM codes f ks = []) := Lib.hid (toM_none (by rw [HL.out]; exact hf))
    clear hf hb1 h hB hS hks
    go_enter Try.func19, Try.ntmps19
    go_wp2_with fail
    refine cI.out.mono ?_
    rintro e w2 ⟨rfl, hb2⟩
    have HB2 : Hid (Below w1.heap.size w1 w2) := Lib.hid hb2
    clear hb2 cI
    go_wp2_with fail
    go_ret
    exact ⟨none, 0, 0, rfl, by simp, by rw [HC.out]; exact ⟨rfl, .inl ⟨rfl, rfl⟩⟩, by rw [hgE.out]; exact HB1.out.trans (HB2.out.mono (by have := HB1.out.size; have := hgE.out; omega))⟩

end Go.Proofs.Ytjblfdnhmmlbfaa
