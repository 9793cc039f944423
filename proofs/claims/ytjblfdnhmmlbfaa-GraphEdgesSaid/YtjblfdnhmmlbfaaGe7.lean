/-
  Graphs of programs: the walk that goes into each function once, counting in a map how often it is met.
-/
import Derived.Test.YtjblfdnhmmlbfaaGe6
namespace Go.Proofs.Ytjblfdnhmmlbfaa
open Go.RowKit Go.Maps
set_option linter.unusedSimpArgs false
set_option linter.unusedVariables false
def vis (m : Nat → Nat) : Nat → Bool := fun j => m j != 0
def unv (n : Nat) (m : Nat → Nat) : Nat := cntU n fun j => m j == 0
theorem unv_le {n : Nat} {m m' : Nat → Nat} (h : ∀ j, vis m j = true → vis m' j = true) : unv n m' ≤ unv n m := cntU_le n fun j _ hj => by
  have h1 := h j
  unfold vis at h1
  simp at h1 hj ⊢
  omega
theorem unv_lt {n : Nat} {m : Nat → Nat} {f v : Nat} (hf : f < n) (h0 : m f = 0) (hv : 0 < v) : unv n (upd m f v) + 1 ≤ unv n m := by
  refine cntU_lt n (fun j _ hj => ?_) hf ?_ ?_
  · by_cases e : j = f
    · subst e; simp [h0]
    · simpa [upd_other _ _ e] using hj
  · simp [upd_same]; omega
  · simp [h0]
theorem vis_upd {m : Nat → Nat} {f v : Nat} (hv : 0 < v) : vis (upd m f v) = upd (vis m) f true := by
  funext j
  unfold vis
  by_cases e : j = f
  · subst e; simp [upd_same]; omega
  · simp [upd_other _ _ e]
theorem vis_same {m : Nat → Nat} {f v : Nat} (h0 : m f ≠ 0) (hv : 0 < v) : vis (upd m f v) = vis m := by
  rw [vis_upd hv]
  funext j
  by_cases e : j = f
  · subst e; simp [upd_same, vis, h0]
  · rw [upd_other _ _ e]
abbrev i64L (v : Int) : DataW Unit := .lit (.int .i64 v)
theorem i64L_inj {a b : Int} (h : i64L a = i64L b) : a = b := by injection h with h; injection h
structure MpD (w : World) (mb n : Nat) (m : Nat → Nat) (c : Nat) (D : DataW Unit) : Prop where
  own : MapI w mb n D
  sz : Maps.size D ≤ cntU n (vis m)
  has : ∀ x : Int, hasI D x = true ↔ 0 ≤ x ∧ x < (n : Int) ∧ m x.toNat ≠ 0
  at_ : ∀ j : Nat, j < n → D.atKey (.int .i64 (j : Int)) (i64L 0) = i64L (m j : Int) ∧ m j ≤ c
theorem map_tight {w : World} {b k n : Nat} {D : DataW Unit} (h : MapI w b k D) (hs : Maps.size D ≤ n) : MapI w b n D := by
  obtain ⟨es, clock, hb, F, _, rfl⟩ := h
  exact ⟨es, clock, hb, F, by simpa [Maps.size, length_sorted] using hs, rfl⟩
theorem wf_small {n j : Nat} (hn : n ≤ 1000000) (hj : j < n) : (Lit.int .i64 (j : Int)).wf = true := WalkArith.wf_i64 (by omega)
theorem MpD.put {w w7 : World} {mb n c f v : Nat} {m : Nat → Nat} {D : DataW Unit} (h : MpD w mb n m c D) (hf : f < n) (hv : v = m f + 1) (ho : MapI w7 mb (n + 1) (D.put (.int .i64 (f : Int)) (i64L (v : Int)))) : MpD w7 mb n (upd m f v) (c + 1) (D.put (.int .i64 (f : Int)) (i64L (v : Int))) := by
  have hT := h.own.tidy law_int
  have hM := h.own.isMap
  have hz : Maps.size (D.put (.int .i64 (f : Int)) (i64L (v : Int))) ≤ cntU n (vis (upd m f v)) := by
    rw [size_put hT]
    by_cases h0 : m f = 0
    · have h1 := cntU_lt n (s := vis m) (t := vis (upd m f v)) (fun j _ hj => by rw [vis_upd (by omega)]; by_cases e : j = f; { subst e; rw [upd_same] }; { rw [upd_other _ _ e]; exact hj }) hf (by simp [vis, h0]) (by rw [vis_upd (by omega), upd_same])
      have := h.sz
      split <;> omega
    · have h2 : Maps.has D (.int .i64 (f : Int)) = true := (h.has (f : Int)).2 ⟨by omega, by omega, by simpa using h0⟩
      rw [if_pos h2, vis_same h0 (by omega)]
      exact h.sz
  refine ⟨map_tight ho (Nat.le_trans hz (cntU_max _ _)), hz, fun x => ?_, fun j hj => ?_⟩
  · by_cases e : x = (f : Int)
    · subst e
      have : hasI (D.put (.int .i64 (f : Int)) (i64L (v : Int))) (f : Int) = true := has_put_same (k := .int .i64 (f : Int)) hM trivial _
      rw [this]
      simp [upd_same]
      omega
    · have : hasI (D.put (.int .i64 (f : Int)) (i64L (v : Int))) x = hasI D x := has_put_other (fun h => e (by injection h)) _
      rw [this, h.has x]
      constructor
      · rintro ⟨a, b, d⟩
        exact ⟨a, b, by rw [upd_other _ _ (by omega)]; exact d⟩
      · rintro ⟨a, b, d⟩
        exact ⟨a, b, by rw [upd_other _ _ (by omega)] at d; exact d⟩
  · by_cases e : j = f
    · subst e
      rw [upd_same]
      exact ⟨atKey_put_same (k := .int .i64 (j : Int)) hM trivial _ _, by have := (h.at_ j hj).2; omega⟩
    · rw [upd_other _ _ e]
      have h1 := h.at_ j hj
      exact ⟨(atKey_put_other (k' := .int .i64 (j : Int)) (k := .int .i64 (f : Int)) (fun h => e (by injection h with _ h; omega)) _ _).trans h1.1, by omega⟩
theorem map_cell {w : World} {b k : Nat} {D : DataW Unit} (hm : MapI w b k D) {p : Addr} (hp : p.block = b) : w.cell? p = none := by
  obtain ⟨es, clock, hb, _⟩ := hm
  subst hp
  simp [World.cell?, hb]
structure Cx (w : World) (mb cb eb kb n gc : Nat) (GA : Option Addr) (g : Gr) (B : Nat) : Prop where
  c1 : w.cell? ⟨cb, 0, none⟩ = some (.map (some mb))
  c2 : w.cell? ⟨eb, 0, none⟩ = some (.slice GA n gc)
  c3 : w.cell? ⟨kb, 0, none⟩ = some (.func (.func 22) #[] #[.pointer (some ⟨cb, 0, none⟩), .pointer (some ⟨eb, 0, none⟩), .pointer (some ⟨kb, 0, none⟩)])
  gr : GrW w B GA n gc g
  hB : B ≤ w.heap.size
theorem Cx.keep {w w' : World} {mb cb eb kb n gc B k k' : Nat} {GA : Option Addr} {g : Gr} {D D' : DataW Unit} (h : Cx w mb cb eb kb n gc GA g B) (hm : MapI w mb k D) (hm' : MapI w' mb k' D') (hk : Kp (fun j => j = mb) w w') : Cx w' mb cb eb kb n gc GA g B := by
  have hne : ∀ {p : Addr} {v : Value}, w.cell? p = some v → ¬ p.block = mb := fun hc e => by rw [map_cell hm e] at hc; cases hc
  refine ⟨hk.cellv h.c1 (hne h.c1), hk.cellv h.c2 (hne h.c2), hk.cellv h.c3 (hne h.c3), SlR.keep stable_row h.gr fun p hp => ?_, Nat.le_trans h.hB hk.size⟩
  by_cases e : p.block = mb
  · rw [map_cell hm e, map_cell hm' e]
  · exact hk.cell (by have := h.hB; omega) e
def IsWk (g : Gr) (mb n : Nat) (m : Nat → Nat) (c f : Nat) (w : World) (e : Ending) (w' : World) : Prop :=
  (∃ v, e = .returned v) ∧ ∃ m' c' D', MpD w' mb n m' c' D' ∧ Wk g (vis m) f (vis m') ∧ c' + 51 * unv n m' ≤ c + 51 * unv n m + 1 ∧ Kp (fun j => j = mb) w w'
abbrev WkArgs (f : Nat) (cb eb kb : Nat) : Array Value := #[.int .i64 (f : Int), .pointer (some ⟨cb, 0, none⟩), .pointer (some ⟨eb, 0, none⟩), .pointer (some ⟨kb, 0, none⟩)]
set_option maxRecDepth 100000 in
set_option maxHeartbeats 4000000 in
theorem walk_old (mb cb eb kb n gc : Nat) (GA : Option Addr) (g : Gr) (B : Nat) (hn : n ≤ 50) (m : Nat → Nat) (c f : Nat) (D : DataW Unit) (w : World) (hx : Cx w mb cb eb kb n gc GA g B) (hm : MpD w mb n m c D) (hf : f < n) (hc : c ≤ 100000) (h0 : m f ≠ 0) :
    Calls Try.prog 22 #[.int .i64 (f : Int), .pointer (some ⟨cb, 0, none⟩), .pointer (some ⟨eb, 0, none⟩), .pointer (some ⟨kb, 0, none⟩)] w (IsWk g mb n m c f w) := by
  have hwf := wf_small (show n ≤ 1000000 by omega) hf
  have hkey := keyOf_int_mk Try.underlying3 hwf
  obtain ⟨v0, hrun, hat, _⟩ := hm.own.lookup_int law_int Try.underlying54 Try.underlying3 (zero_int _) hkey
  obtain ⟨h1, h2⟩ := hm.at_ f hf
  obtain ⟨a, ha⟩ : ∃ a, m f = a := ⟨_, rfl⟩
  rw [h1, ha] at hat
  obtain rfl := i64L_inj hat
  obtain ⟨v, hv⟩ : ∃ v : Nat, a + 1 = v := ⟨_, rfl⟩
  have hvf : (Lit.int .i64 (v : Int)).wf = true := WalkArith.wf_i64 (by omega)
  have q1 := hx.c1
  have hgt : (1 : Int) < (v : Int) := by omega
  have ha0 : (0 : Int) ≤ (a : Int) := by omega
  have hab : (a : Int) ≤ 100000 := by omega
  have HAV : Hid ((a : Int) + 1 = (v : Int)) := Lib.hid (by omega)
  have HN : Hid (∀ w7, MapI w7 mb (n + 1) (D.put (.int .i64 (f : Int)) (i64L (v : Int))) → w.grownBy w7 (some mb) → w7.cell? ⟨cb, 0, none⟩ = some (.map (some mb)) ∧ (Instr.lookup 54 (.map (some mb)) (.int .i64 (f : Int)) false).run Try.prog w7 = .ok (.int .i64 (v : Int)) w7 ∧ IsWk g mb n m c f w (.returned (.tuple #[])) w7) := Lib.hid (fun w7 ho hg => by
    have hk : Kp (fun j => j = mb) w w7 := (Kp.refl _ w).ofGrown hg (fun k hk _ => (Option.some.inj hk).symm)
    have hp := hm.put hf (v := v) (by omega) ho
    have hxx := hx.keep hm.own hp.own hk
    obtain ⟨v1, hrun1, hat1, _⟩ := hp.own.lookup_int law_int Try.underlying54 Try.underlying3 (zero_int _) hkey
    have h3 := (hp.at_ f hf).1
    rw [upd_same] at h3
    rw [h3] at hat1
    obtain rfl := i64L_inj hat1
    refine ⟨hxx.c1, hrun1, ⟨⟨_, rfl⟩, ⟨_, _, _, hp, ?_, ?_, hk⟩⟩⟩
    · rw [vis_same (by omega) (by omega)]
      exact Wk.old (by simp [vis, h0])
    · have : unv n (upd m f v) ≤ unv n m := unv_le (by rw [vis_same (by omega) (by omega)]; exact fun _ h => h)
      omega)
  have HO := Lib.hid hm.own
  have HKEY := Lib.hid hkey
  have hkn : n < maxLen := by unfold maxLen; omega
  clear hat h1 h2 hm hx hkey hwf h0 ha hv
  go_enter Try.func22, Try.ntmps22
  go_wp2_with (first
    | (at_mapUpdate; refine wpList_mapUpdate_own _ rfl _ _ _ 54 rfl 3 3 law_int Try.underlying54 _ mb n D rfl HO.out hkn _ (.int .i64 (v : Int)) _ rfl (by go_simp; exact HAV.out) HKEY.out (i64L (v : Int)) [] (plainElem_int Try.underlying3 hvf) ?_
       intro w7 hown7 hgrow7
       obtain ⟨q7, hrun7, hfin⟩ := HN.out w7 hown7 hgrow7
       have HFIN := Lib.hid hfin
       clear hown7 hgrow7 hfin)
    | fail)
  go_end0
  exact HFIN.out
/-- What the walk is told of its own calls. -/
def Ih (g : Gr) (mb cb eb kb n gc : Nat) (GA : Option Addr) (B u : Nat) : Prop := ∀ (m : Nat → Nat) (c f : Nat) (D : DataW Unit) (w : World), Cx w mb cb eb kb n gc GA g B → MpD w mb n m c D → f < n → unv n m ≤ u → c + 51 * unv n m + 1 ≤ 100000 →
  Calls Try.prog 22 #[.int .i64 (f : Int), .pointer (some ⟨cb, 0, none⟩), .pointer (some ⟨eb, 0, none⟩), .pointer (some ⟨kb, 0, none⟩)] w (IsWk g mb n m c f w)
set_option maxRecDepth 100000 in
set_option maxHeartbeats 8000000 in
theorem walk_new (mb cb eb kb n gc : Nat) (GA : Option Addr) (g : Gr) (B u : Nat) (hn : n ≤ 50) (hgl : g.length = n) (hrow : ∀ i, (rowG g i).length ≤ 50) (hin : ∀ i x, x ∈ rowG g i → 0 ≤ x ∧ x < (n : Int)) (IH : Ih g mb cb eb kb n gc GA B u)
    (m : Nat → Nat) (c f : Nat) (D : DataW Unit) (w : World) (hx : Cx w mb cb eb kb n gc GA g B) (hm : MpD w mb n m c D) (hf : f < n) (hu : unv n m ≤ u + 1) (hc : c + 51 * unv n m + 1 ≤ 100000) (h0 : m f = 0) :
    Calls Try.prog 22 #[.int .i64 (f : Int), .pointer (some ⟨cb, 0, none⟩), .pointer (some ⟨eb, 0, none⟩), .pointer (some ⟨kb, 0, none⟩)] w (IsWk g mb n m c f w) := by
  have hwf := wf_small (show n ≤ 1000000 by omega) hf
  have hkey := keyOf_int_mk Try.underlying3 hwf
  obtain ⟨v0, hrun, hat, _⟩ := hm.own.lookup_int law_int Try.underlying54 Try.underlying3 (zero_int _) hkey
  obtain ⟨h1, h2⟩ := hm.at_ f hf
  rw [h1, h0] at hat
  obtain rfl := i64L_inj hat
  have q1 := hx.c1
  have hf0 : (0 : Int) ≤ (f : Int) := by omega
  have hfn : (f : Int) < (n : Int) := by omega
  have hnb : (n : Int) ≤ 50 := by omega
  have HIH := Lib.hid IH
  obtain ⟨bg, og, Ar, nr, cr, rfl, hbg, hgc, hrw⟩ := hx.gr.row hf
  have HRL : Hid ((rowG g f).length = nr) := Lib.hid hrw.1
  have hnr : (nr : Int) ≤ 50 := by have := hrow f; have := HRL.out; omega
  have hnr0 : (0 : Int) ≤ (nr : Int) := by omega
  have HRR : Hid (∀ W k' D', Kp (fun j => j = mb) w W → MapI W mb k' D' → Cx W mb cb eb kb n gc (some ⟨bg, og, none⟩) g B ∧ W.cell? ⟨bg, og + f, none⟩ = some (.slice Ar nr cr) ∧ SlI W B Ar nr cr (rowG g f)) := Lib.hid (fun W k' D' hk hm' => ⟨hx.keep hm.own hm' hk, by
    have hne : ¬ bg = mb := fun e => by rw [map_cell hm.own e] at hgc; cases hgc
    exact hk.cellv hgc hne, SlR.keep (stable_rc _) hrw fun p hp => by
      by_cases e : p.block = mb
      · rw [map_cell hm.own e, map_cell hm' e]
      · exact hk.cell (by have := hx.hB; omega) e⟩)
  have HN : Hid (∀ w7, MapI w7 mb (n + 1) (D.put (.int .i64 (f : Int)) (i64L 1)) → w.grownBy w7 (some mb) → w7.cell? ⟨cb, 0, none⟩ = some (.map (some mb)) ∧ (Instr.lookup 54 (.map (some mb)) (.int .i64 (f : Int)) false).run Try.prog w7 = .ok (.int .i64 1) w7 ∧ w7.cell? ⟨eb, 0, none⟩ = some (.slice (some ⟨bg, og, none⟩) n gc) ∧ w7.cell? ⟨bg, og + f, none⟩ = some (.slice Ar nr cr) ∧ MpD w7 mb n (upd m f 1) (c + 1) (D.put (.int .i64 (f : Int)) (i64L 1)) ∧ Kp (fun j => j = mb) w w7) := Lib.hid (fun w7 ho hg => by
    have hk : Kp (fun j => j = mb) w w7 := (Kp.refl _ w).ofGrown hg (fun k hk _ => (Option.some.inj hk).symm)
    have hp := hm.put hf (v := 1) (by omega) ho
    obtain ⟨hxx, hr, _⟩ := HRR.out w7 _ _ hk hp.own
    obtain ⟨v1, hrun1, hat1, _⟩ := hp.own.lookup_int law_int Try.underlying54 Try.underlying3 (zero_int _) hkey
    have h3 := (hp.at_ f hf).1
    rw [upd_same] at h3
    have h4 : (1 : Int) = v1 := i64L_inj (h3.symm.trans hat1)
    subst h4
    exact ⟨hxx.c1, hrun1, hxx.c2, hr, hp, hk⟩)
  have HUL : Hid (unv n (upd m f 1) + 1 ≤ unv n m) := Lib.hid (unv_lt hf h0 (by omega))
  have HVU : Hid (vis (upd m f 1) = upd (vis m) f true) := Lib.hid (vis_upd (by omega))
  have HU := Lib.hid hu
  have HC := Lib.hid hc
  have HIN := Lib.hid hin
  have HGL := Lib.hid hgl
  have HO := Lib.hid hm.own
  have HKEY := Lib.hid hkey
  have hkn : n < maxLen := by unfold maxLen; omega
  have hvf : (Lit.int .i64 1).wf = true := by decide
  clear hat h1 h2 hm hx hkey hwf h0 hgc hrw hbg hrow hu hc hin hgl IH
  go_enter Try.func22, Try.ntmps22
  go_wp2_with (first
    | (at_mapUpdate; refine wpList_mapUpdate_own _ rfl _ _ _ 54 rfl 3 3 law_int Try.underlying54 _ mb n D rfl HO.out hkn _ (.int .i64 1) _ rfl (by go_simp) HKEY.out (i64L 1) [] (plainElem_int Try.underlying3 hvf) ?_
       intro w7 hown7 hgrow7
       obtain ⟨q7, hrun7, q8, q9, hmp7, hk7⟩ := HN.out w7 hown7 hgrow7
       have HMP7 := Lib.hid hmp7
       have HK7 := Lib.hid hk7
       clear hown7 hgrow7 hmp7 hk7)
    | fail)
  clear HN q1 q7 q8 q9 hrun hrun7
  go_loopw [20] (fun iv wr => ∃ (k : Nat) (m2 : Nat → Nat) (c2 : Nat) (D2 : DataW Unit), iv = .int .i64 k ∧ k ≤ nr ∧ Hid (MpD wr mb n m2 c2 D2 ∧ Wl g (vis (upd m f 1)) f k (vis m2) ∧ c2 + 51 * unv n m2 ≤ c + 1 + 51 * unv n (upd m f 1) + k ∧ Kp (fun j => j = mb) w wr)) (fun iv _ => nr - (intOf iv).toNat)
  case atStart => exact ⟨0, _, _, _, rfl, Nat.zero_le _, Lib.hid ⟨HMP7.out, Wl.start _ _ _, by omega, HK7.out⟩⟩
  case round =>
    clear HMP7 HK7
    obtain ⟨k, m2, c2, D2, rfl, hk, HK⟩ := hrel
    have hk0 : (0 : Int) ≤ (k : Int) := by omega
    by_cases hkl : k < nr
    · have hkn' : (k : Int) < (nr : Int) := by omega
      obtain ⟨hxx, _, hsl⟩ := HRR.out wr _ _ HK.out.2.2.2 HK.out.1.own
      obtain ⟨b2, o2, tv, rfl, hb2, htv, hct⟩ := SlR.cell1 (f := Value.int .i64) hsl hkl
      have htr := HIN.out f tv (List.mem_of_getElem? htv)
      obtain ⟨t, rfl⟩ : ∃ t : Nat, tv = (t : Int) := ⟨tv.toNat, by omega⟩
      have HT : Hid ((rowG g f)[k]? = some (t : Int) ∧ t < n) := Lib.hid ⟨htv, by omega⟩
      have q3 := hxx.c3
      have hul : unv n m2 ≤ unv n (upd m f 1) := unv_le HK.out.2.1.mono
      have cW := Lib.hid (HIH.out m2 c2 t D2 wr hxx HK.out.1 HT.out.2 (by have := HU.out; have := HUL.out; omega) (by have := HK.out.2.2.1; have := HC.out; have := HUL.out; omega))
      clear hxx hsl htv htr hb2 hul
      go_wp2_with fail
      refine cW.out.mono ?_
      rintro e w8 ⟨⟨v8, rfl⟩, m8, c8, D8, hm8, hw8, hc8, hk8⟩
      have HN8 : Hid (MpD w8 mb n m8 c8 D8 ∧ Wl g (vis (upd m f 1)) f (k + 1) (vis m8) ∧ c8 + 51 * unv n m8 ≤ c + 1 + 51 * unv n (upd m f 1) + (k + 1) ∧ Kp (fun j => j = mb) w w8) := Lib.hid ⟨hm8, HK.out.2.1.step HT.out.1 (by rw [HGL.out]; exact HT.out.2) hw8, by have := HK.out.2.2.1; omega, HK.out.2.2.2.trans hk8⟩
      clear hm8 hw8 hc8 hk8 cW HK
      go_wp2_with fail
      go_roundw
      case rel => exact ⟨k + 1, m8, c8, D8, by go_num, by omega, HN8⟩
      case measure => simp [intOf]; omega
    · obtain rfl : k = nr := by omega
      have HF : Hid (IsWk g mb n m c f w (.returned (.tuple #[])) wr) := Lib.hid ⟨⟨_, rfl⟩, ⟨m2, c2, D2, HK.out.1, by
        have h1 := HK.out.2.1
        rw [HVU.out, ← HRL.out] at h1
        exact h1.end_, by have := HK.out.2.2.1; have := HUL.out; have := HC.out; omega, HK.out.2.2.2⟩⟩
      clear HK
      go_wp2_with fail
      go_end0
      exact HF.out
theorem walk_any (mb cb eb kb n gc : Nat) (GA : Option Addr) (g : Gr) (B : Nat) (hn : n ≤ 50) (hgl : g.length = n) (hrow : ∀ i, (rowG g i).length ≤ 50) (hin : ∀ i x, x ∈ rowG g i → 0 ≤ x ∧ x < (n : Int)) : ∀ u, Ih g mb cb eb kb n gc GA B u
  | 0 => fun m c f D w hx hm hf hu hc => by
    by_cases h0 : m f = 0
    · have := unv_lt (v := 1) hf h0 (by omega)
      omega
    · exact walk_old mb cb eb kb n gc GA g B hn m c f D w hx hm hf (by omega) h0
  | u + 1 => fun m c f D w hx hm hf hu hc => by
    by_cases h0 : m f = 0
    · exact walk_new mb cb eb kb n gc GA g B u hn hgl hrow hin (walk_any mb cb eb kb n gc GA g B hn hgl hrow hin u) m c f D w hx hm hf hu hc h0
    · exact walk_old mb cb eb kb n gc GA g B hn m c f D w hx hm hf (by omega) h0
end Go.Proofs.Ytjblfdnhmmlbfaa
